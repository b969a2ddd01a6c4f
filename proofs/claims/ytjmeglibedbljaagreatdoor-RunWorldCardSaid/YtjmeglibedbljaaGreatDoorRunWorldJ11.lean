import Derived.Test.YtjmeglibedbljaaGreatDoorRunWorldJ10
import Derived.Laws.EntriesVeiled
import Derived.Maps.OwnSet
namespace Go.Proofs.YtjmeglibedbljaaGreatDoor
set_option maxRecDepth 100000
set_option maxHeartbeats 20000000
open Go.RowKit Tryz
open Lib renaming hid->V
set_option linter.all false
theorem nq {m:eI} {j:Nat} (h:jz m j=false):∀n,j <=n ->jz m n=false
 | 0,hn=>by
  obtain rfl:j=0:=by omega
  exact h
 | n+1,hn=>by
  rcases bz n j with h1 | h1
  ·obtain rfl:j=n+1:=by omega
   exact h
  ·rw [jz,nq h n h1]
   rfl
theorem eI.may.short {m:eI} (h:m.may):m.short:=fun t ht=>by
 obtain⟨h1,h2,-⟩:=h.1.2.1.1.1.2 t ht;omega
theorem eI.may.eF {m:eI} (h:m.may) (he:∀c∈m.eF,∀x∈c.body,x.mW):∀c∈m.eF,c.locals.length <=100000/\∀x∈c.body,x.may/\x.mW:=fun c hc=>by
 obtain⟨-,⟨h1,-⟩,-,h2⟩:=h.1.1.2.2 c hc;exact⟨by omega,fun x hx=>⟨h2 x hx,he c hc x hx⟩⟩
def jk (m:eI) (w:World) (e:Ending) (w':World):Prop:=e= .returned (.tuple #[.int .i64 (iT m), .bool (decide (iT m= -1))])/\Below w.heap.size w w'
theorem jk.mk {m:eI} {n:Int} {b:Bool} {w w':World} {e:Ending} (hf:iT m=n) (hb:decide (n= -1)=b) (h:Below w.heap.size w w') (he:e= .returned (.tuple #[.int .i64 n, .bool b])):jk m w e w':=⟨by rw [he,hf,hb],h⟩
theorem eA.take {α:Type} {k:Nat} {enc:α ->List Value} {w:World} {a:Option Addr} {n cap:Nat} {l:List α} (h:eA k enc w (.slice a n cap) l) (i:Nat) (hi:i <=l.length):eA k enc w (.slice a i cap) (l.take i):=by
 obtain⟨a',NK,hv,h1,h2,h3⟩:=h;injection hv with e1 e2 e3;subst e1 e3;refine⟨a,cap,by rw [aP,cq hi],by rw [aP];omega,h2,fun j x hx=>h3 j x ?_⟩;rw [cZ]at hx;split at hx
 ·exact hx
 ·cases hx
theorem xB (a:Option Addr) (len cap k:Nat) (h:k <=cap) (wx:World):
  (Instr.slice 30 (.slice a len cap) none (some (.int .i64 k)) none).run prog wx= .ok (.slice a k cap) wx:=by
 have hu:prog.underlying 30=some (.slice 75):=by kernel_rfl
 obtain⟨i0,hi,Po,Oi,O1⟩:=bS BU;simp [Instr.slice,aZ hu,Instr.sliceBounds,Instr.sliceBound,sizeOf,typeInfo,hi,asIntOf,h];cases a <;>simp [Addr.add]
theorem qD (m:eI) (u:eT) (w:World) (hm:eG w u m) (hs:m.words) (hn:m.imports.length+m.funcs.length <=1000000) (he:∀c∈m.eF,∀x∈c.body,x.mW):Calls prog 34 #[.agg (u.cells m)] w (jk m w):=by
 have HI:=V hm;have Tk:=V hs;have HE:=V he;obtain⟨a0,c0,a1,c1,a2,c2,a3,c3,a4,c4,a5,c5,a6,c6,a7,c7,rfl⟩:=eG.open hm;simp only [eT.cells];have hxl:m.ey.length <=9223372036854775807:=by
  obtain⟨_,_,_,h1,h2⟩:=fH hm.2.2.2.2.1;omega
 have hxc:m.ey.length <=c4:=by
  obtain⟨_,_,e,h1,h2⟩:=fH hm.2.2.2.2.1;injection e with e1 e2 e3;omega
 have N8:m.eF.length <=9223372036854775807:=by
  obtain⟨_,_,_,h1,h2⟩:=eD.slice hm.2.2.2.2.2.2.1;omega
 clear hm hs he;have HX0:=eS.new w #[.slice a0 m.types.length c0, .slice a1 m.imports.length c1, .slice a2 m.funcs.length c2, .bool m.table.has, .int .i64 m.table.min, .int .i64 m.table.max, .bool m.mem.has, .int .i64 m.mem.min, .int .i64 m.mem.max, .slice a3 m.globals.length c3, .slice a4 m.ey.length c4, .slice a5 m.elems.length c5, .slice a6 m.eF.length c6, .slice a7 m.eP.length c7] 35;have NG:=(an w.heap.size w).alloc (ag _) (.cells #[.slice a0 m.types.length c0, .slice a1 m.imports.length c1, .slice a2 m.funcs.length c2, .bool m.table.has, .int .i64 m.table.min, .int .i64 m.table.max, .bool m.mem.has, .int .i64 m.mem.min, .int .i64 m.mem.max, .slice a3 m.globals.length c3, .slice a4 m.ey.length c4, .slice a5 m.elems.length c5, .slice a6 m.eF.length c6, .slice a7 m.eP.length c7] 35);have Nx:=NG.alloc (by rw [aC];omega) (.cells #[.func (.func 68) #[] #[.pointer (some ⟨w.heap.size,0,none⟩)]] 117);have HS:=V (Nx.alloc (by rw [aC,aC];omega) (.cells #[.func (.func 69) #[] #[.pointer (some ⟨w.heap.size,0,none⟩)]] 117));have HX:=V ((HX0.alloc (.cells #[.func (.func 68) #[] #[.pointer (some ⟨w.heap.size,0,none⟩)]] 117)).alloc (.cells #[.func (.func 69) #[] #[.pointer (some ⟨w.heap.size,0,none⟩)]] 117));have h4:=(eS.new (w.alloc (.cells #[.slice a0 m.types.length c0, .slice a1 m.imports.length c1, .slice a2 m.funcs.length c2, .bool m.table.has, .int .i64 m.table.min, .int .i64 m.table.max, .bool m.mem.has, .int .i64 m.mem.min, .int .i64 m.mem.max, .slice a3 m.globals.length c3, .slice a4 m.ey.length c4, .slice a5 m.elems.length c5, .slice a6 m.eF.length c6, .slice a7 m.eP.length c7] 35)) #[.func (.func 68) #[] #[.pointer (some ⟨w.heap.size,0,none⟩)]] 117).alloc (.cells #[.func (.func 69) #[] #[.pointer (some ⟨w.heap.size,0,none⟩)]] 117);have h5:=eS.new ((w.alloc (.cells #[.slice a0 m.types.length c0, .slice a1 m.imports.length c1, .slice a2 m.funcs.length c2, .bool m.table.has, .int .i64 m.table.min, .int .i64 m.table.max, .bool m.mem.has, .int .i64 m.mem.min, .int .i64 m.mem.max, .slice a3 m.globals.length c3, .slice a4 m.ey.length c4, .slice a5 m.elems.length c5, .slice a6 m.eF.length c6, .slice a7 m.eP.length c7] 35)).alloc (.cells #[.func (.func 68) #[] #[.pointer (some ⟨w.heap.size,0,none⟩)]] 117)) #[.func (.func 69) #[] #[.pointer (some ⟨w.heap.size,0,none⟩)]] 117;simp only [aC]at h4 h5;have H4:=V (show World.cell? _ ⟨w.heap.size+1,0,none⟩=some (.func (.func 68) #[] #[.pointer (some ⟨w.heap.size,0,none⟩)])from h4.cell 0);have H5:=V (show World.cell? _ ⟨w.heap.size+2,0,none⟩=some (.func (.func 69) #[] #[.pointer (some ⟨w.heap.size,0,none⟩)])from h5.cell 0);clear NG Nx h4 h5 HX0;have HF:=V (iT.eq_1 m);go_enter func34,ntmps34;go_wp2_with fail;obtain⟨wB,hwB⟩:∃wB,wB=(((w.alloc (.cells #[.slice a0 m.types.length c0, .slice a1 m.imports.length c1, .slice a2 m.funcs.length c2, .bool m.table.has, .int .i64 m.table.min, .int .i64 m.table.max, .bool m.mem.has, .int .i64 m.mem.min, .int .i64 m.mem.max, .slice a3 m.globals.length c3, .slice a4 m.ey.length c4, .slice a5 m.elems.length c5, .slice a6 m.eF.length c6, .slice a7 m.eP.length c7] 35)).alloc (.cells #[.func (.func 68) #[] #[.pointer (some ⟨w.heap.size,0,none⟩)]] 117)).alloc (.cells #[.func (.func 69) #[] #[.pointer (some ⟨w.heap.size,0,none⟩)]] 117)):=⟨_,rfl⟩;rw [<- hwB]at HS HX H4 H5⊢;clear hwB;refine eR (fun a' w'=>∃(tw:Bool) (i:Nat),a'=fr (gs a' 0 1 (.pointer (some ⟨w.heap.size,0,none⟩)::gs a' 2 2 (.pointer (some ⟨w.heap.size+1,0,none⟩):: .pointer (some ⟨w.heap.size+2,0,none⟩):: .bool tw::gs a' 7 6 (.slice a4 m.ey.length c4:: .int .i64 m.ey.length:: .int .i64 i::gs a' 16 80 []))))/\i <=m.ey.length/\tw=mX m [] (m.ey.take i)/\Below wB.heap.size wB w') (fun a' _=>(m.ey.length - (intOf (a'.tmps.getD 15 undef)).toNat)) ?_ ?_
 ·exact⟨false,0,rfl,bg _,rfl,an _ _⟩
 ·skip
  rintro R a' w1 ⟨tw,i,Nm,hJ⟩ HR;dsimp only [fr,gs]at Nm;generalize slot a'=f at Nm;subst Nm;obtain⟨hi,htw,hb⟩:=hJ;replace HX:=V (HX.out.below hb HX.out.lt);replace HS:=V (HS.out.trans (hb.mono HS.out.size));replace H4:=V ((Ext.et hb).1 _ _ H4.out);replace H5:=V ((Ext.et hb).1 _ _ H5.out);have NB:=V hb;have HTW:=V htw;clear hb htw;by_cases q:i < m.ey.length;rotate_left
  ·obtain rfl:i=m.ey.length:=by omega
   replace HTW:=V (show tw=zE m by rw [HTW.out,aU];rfl);clear q hi;obtain⟨g0,g1,g2,g3,g4,g5,g6,g7,g8,g9,NT,NY,NZ,N0⟩:=HX.out.mod;go_wp2_with fail;refine(uD m ⟨.slice a0 m.types.length c0, .slice a1 m.imports.length c1, .slice a2 m.funcs.length c2, .slice a3 m.globals.length c3, .slice a4 m.ey.length c4, .slice a5 m.elems.length c5, .slice a6 m.eF.length c6, .slice a7 m.eP.length c7⟩ w1 (eG.below HI.out HS.out) Tk.out).mono ?_;rintro x w2 ⟨rfl,hb⟩;replace HX:=V (HX.out.below hb HX.out.lt);replace HS:=V (HS.out.trans (hb.mono HS.out.size));replace H4:=V ((Ext.et hb).1 _ _ H4.out);replace H5:=V ((Ext.et hb).1 _ _ H5.out);clear hb;clear g0 g1 g2 g3 g4 g5 g6 g7 g8 g9 NT NY NZ N0;obtain⟨g0,g1,g2,g3,g4,g5,g6,g7,g8,g9,NT,NY,NZ,N0⟩:=HX.out.mod;by_cases q:m.may;rotate_left
   ·have f1:decide m.may=false:=aw q
    replace HF:=V (HF.out.trans (aE f1));rw [f1];clear q;go_wp2
    go_ret2
    exact jk.mk HF.out (by decide) HS.out rfl
   have O6:=V q;have f1:decide m.may=true:=ay q;replace HF:=V (HF.out.trans (az (by rw [f1];simp)));rw [f1];clear q f1;go_wp2_with fail;refine(Bl (fun x=>mr m x.type) _ m.imports _ (HI.out.2.1.ext (Ext.et HS.out)) 74 #[.pointer (some ⟨w.heap.size+1,0,none⟩)] (fun _ _=>by rfl) (fun e _ w' hb=>BE m w.heap.size (w.heap.size+1) e w' a0 c0 ((Ext.et hb).1 _ _ HX.out.mod.1) ((Ext.et hb).1 _ _ H4.out))).mono ?_;rintro x w3 ⟨rfl,hb⟩;replace HX:=V (HX.out.below hb HX.out.lt);replace HS:=V (HS.out.trans (hb.mono HS.out.size));replace H4:=V ((Ext.et hb).1 _ _ H4.out);replace H5:=V ((Ext.et hb).1 _ _ H5.out);clear hb;clear g0 g1 g2 g3 g4 g5 g6 g7 g8 g9 NT NY NZ N0;obtain⟨g0,g1,g2,g3,g4,g5,g6,g7,g8,g9,NT,NY,NZ,N0⟩:=HX.out.mod;obtain⟨r,hr⟩:∃r,(m.imports.any fun x=>mr m x.type)=r:=⟨_,rfl⟩;rw [hr];cases r;rotate_left
   ·replace HF:=V (HF.out.trans (aE hr))
    clear hr;go_wp2
    go_ret2
    exact jk.mk HF.out (by decide) HS.out rfl
   replace HF:=V (HF.out.trans (az (fun h=>absurd (hr.symm.trans h) (by decide))));clear hr;have h4:=H4.out;go_wp2_with fail;clear h4;refine(rk (fun t=>mr m t) _ m.funcs _ (HI.out.2.2.1.ext (Ext.et HS.out)) 68 #[.pointer (some ⟨w.heap.size,0,none⟩)] (fun _ _=>by rfl) (fun e _ w' hb=>wL m w.heap.size a0 c0 e w' ((Ext.et hb).1 _ _ HX.out.mod.1))).mono ?_;rintro x w4 ⟨rfl,hb⟩;replace HX:=V (HX.out.below hb HX.out.lt);replace HS:=V (HS.out.trans (hb.mono HS.out.size));replace H4:=V ((Ext.et hb).1 _ _ H4.out);replace H5:=V ((Ext.et hb).1 _ _ H5.out);clear hb;clear g0 g1 g2 g3 g4 g5 g6 g7 g8 g9 NT NY NZ N0;obtain⟨g0,g1,g2,g3,g4,g5,g6,g7,g8,g9,NT,NY,NZ,N0⟩:=HX.out.mod;obtain⟨r,hr⟩:∃r,(m.funcs.any fun t=>mr m t)=r:=⟨_,rfl⟩;rw [hr];cases r;rotate_left
   ·replace HF:=V (HF.out.trans (aE hr))
    clear hr;go_wp2
    go_ret2
    exact jk.mk HF.out (by decide) HS.out rfl
   replace HF:=V (HF.out.trans (az (fun h=>absurd (hr.symm.trans h) (by decide))));clear hr;go_wp2_with fail;refine(vL m.table _).mono ?_;rintro x w5 ⟨rfl,hb⟩;replace HX:=V (HX.out.below hb HX.out.lt);replace HS:=V (HS.out.trans (hb.mono HS.out.size));replace H4:=V ((Ext.et hb).1 _ _ H4.out);replace H5:=V ((Ext.et hb).1 _ _ H5.out);clear hb;clear g0 g1 g2 g3 g4 g5 g6 g7 g8 g9 NT NY NZ N0;obtain⟨g0,g1,g2,g3,g4,g5,g6,g7,g8,g9,NT,NY,NZ,N0⟩:=HX.out.mod;obtain⟨r,hr⟩:∃r,lj m.table=r:=⟨_,rfl⟩;rw [hr];cases r;rotate_left
   ·replace HF:=V (HF.out.trans (aE hr))
    clear hr;go_wp2
    go_ret2
    exact jk.mk HF.out (by decide) HS.out rfl
   replace HF:=V (HF.out.trans (az (fun h=>absurd (hr.symm.trans h) (by decide))));clear hr;go_wp2_with fail;refine(vL m.mem _).mono ?_;rintro x w6 ⟨rfl,hb⟩;replace HX:=V (HX.out.below hb HX.out.lt);replace HS:=V (HS.out.trans (hb.mono HS.out.size));replace H4:=V ((Ext.et hb).1 _ _ H4.out);replace H5:=V ((Ext.et hb).1 _ _ H5.out);clear hb;clear g0 g1 g2 g3 g4 g5 g6 g7 g8 g9 NT NY NZ N0;obtain⟨g0,g1,g2,g3,g4,g5,g6,g7,g8,g9,NT,NY,NZ,N0⟩:=HX.out.mod;obtain⟨r,hr⟩:∃r,lj m.mem=r:=⟨_,rfl⟩;rw [hr];cases r;rotate_left
   ·replace HF:=V (HF.out.trans (aE hr))
    clear hr;go_wp2
    go_ret2
    exact jk.mk HF.out (by decide) HS.out rfl
   replace HF:=V (HF.out.trans (az (fun h=>absurd (hr.symm.trans h) (by decide))));clear hr;rw [HTW.out];obtain⟨r,hr⟩:∃r,zE m=r:=⟨_,rfl⟩;rw [hr];cases r;rotate_left
   ·replace HF:=V (HF.out.trans (aE hr))
    clear hr;go_wp2
    go_ret2
    exact jk.mk HF.out (by decide) HS.out rfl
   replace HF:=V (HF.out.trans (az (fun h=>absurd (hr.symm.trans h) (by decide))));clear hr;by_cases qe:m.elems.length≠0/\m.table.has=false
   ·replace HF:=V (HF.out.trans (aE qe))
    have f1:decide ((0:Int) < (m.elems.length:Int))=true:=ay (by have:=qe.1;omega);have f2:decide (0 < m.elems.length)=true:=ay (by have:=qe.1;omega);rw [qe.2]at g3;clear qe;go_wp2
    go_ret2
    exact jk.mk HF.out (by decide) HS.out rfl
   replace HF:=V (HF.out.trans (az qe));by_cases q0:m.elems.length=0
   ·have f1:decide ((0:Int) < (m.elems.length:Int))=false:=aw (by omega)
    have f2:decide (0 < m.elems.length)=false:=aw (by omega);clear qe q0;go_wp2_with fail;clear f1 f2;refine(vt (fun x=>x.funcs.any fun f=>ml m f) _ m.elems _ (HI.out.2.2.2.2.2.1.ext (Ext.et HS.out) (fun _ _ h=>h.ext (Ext.et HS.out))) 78 #[.pointer (some ⟨w.heap.size+2,0,none⟩)] (fun _ _=>by rfl) (fun e _ u w' hb hu=>qZ m w.heap.size (w.heap.size+2) e u w' a1 a2 c1 c2 ((Ext.et hb).1 _ _ HX.out.mod.2.1) ((Ext.et hb).1 _ _ HX.out.mod.2.2.1) hn ((Ext.et hb).1 _ _ H5.out) hu)).mono ?_;rintro x w7 ⟨rfl,hb⟩;replace HX:=V (HX.out.below hb HX.out.lt);replace HS:=V (HS.out.trans (hb.mono HS.out.size));replace H4:=V ((Ext.et hb).1 _ _ H4.out);replace H5:=V ((Ext.et hb).1 _ _ H5.out);clear hb;clear g0 g1 g2 g4 g5 g6 g7 g8 g9 NT NY NZ N0;obtain⟨g0,g1,g2,g3',g4,g5,g6,g7,g8,g9,NT,NY,NZ,N0⟩:=HX.out.mod;clear g3;have g3:=g3';clear g3';obtain⟨r,hr⟩:∃r,(m.elems.any fun x=>x.funcs.any fun f=>ml m f)=r:=⟨_,rfl⟩;rw [hr];cases r;rotate_left
    ·replace HF:=V (HF.out.trans (aE hr))
     clear hr;go_wp2
     go_ret2
     exact jk.mk HF.out (by decide) HS.out rfl
    replace HF:=V (HF.out.trans (az (fun h=>absurd (hr.symm.trans h) (by decide))));clear hr;go_wp2_with fail;clear g0 g1 g2 g3 g4 g5 g6 g7 g8 g9 NT NY NZ N0;refine eR (fun a' w'=>∃(i:Nat),a'=fr (gs a' 0 1 (.pointer (some ⟨w.heap.size,0,none⟩)::gs a' 2 75 (.int .i64 m.eF.length:: .int .i64 i::gs a' 79 17 [])))/\i <=m.eF.length/\jz m i=true/\Below w7.heap.size w7 w') (fun a' _=>(m.eF.length - (intOf (a'.tmps.getD 78 undef)).toNat)) ?_ ?_
    ·exact⟨0,rfl,bg _,rfl,an _ _⟩
    ·skip
     rintro R a' w8 ⟨i,Nm,hJ⟩ HR;dsimp only [fr,gs]at Nm;generalize slot a'=f at Nm;subst Nm;obtain⟨hi,Sj,hb⟩:=hJ;replace HX:=V (HX.out.below hb HX.out.lt);replace HS:=V (HS.out.trans (hb.mono HS.out.size));replace H4:=V ((Ext.et hb).1 _ _ H4.out);replace H5:=V ((Ext.et hb).1 _ _ H5.out);have NB:=V hb;have HCF:=V Sj;clear hb Sj;obtain⟨g0,g1,g2,g3,g4,g5,g6,g7,g8,g9,NT,NY,NZ,N0⟩:=HX.out.mod;by_cases q:i < m.eF.length
     ·go_wp2_with fail
      refine(ow m ⟨.slice a0 m.types.length c0, .slice a1 m.imports.length c1, .slice a2 m.funcs.length c2, .slice a3 m.globals.length c3, .slice a4 m.ey.length c4, .slice a5 m.elems.length c5, .slice a6 m.eF.length c6, .slice a7 m.eP.length c7⟩ i w8 (eG.below HI.out HS.out) O6.out.short (O6.out.eF HE.out)).mono ?_;rintro x w9 ⟨rfl,hb⟩;replace HX:=V (HX.out.below hb HX.out.lt);replace HS:=V (HS.out.trans (hb.mono HS.out.size));replace H4:=V ((Ext.et hb).1 _ _ H4.out);replace H5:=V ((Ext.et hb).1 _ _ H5.out);replace NB:=V (NB.out.trans (hb.mono NB.out.size));clear hb g0 g1 g2 g3 g4 g5 g6 g7 g8 g9 NT NY NZ N0;obtain⟨r,hr⟩:∃r,gb m i=r:=⟨_,rfl⟩;rw [hr];have HCN:=V (show jz m (i+1)=r by rw [jz,HCF.out,hr];rfl);clear hr;cases r
      ·replace HF:=V (HF.out.trans (aE (nq HCN.out _ (by omega))))
       go_wp2
       go_ret2
       exact jk.mk HF.out (by decide) HS.out rfl
      ·go_wp2
       refine HR.out _ _ ⟨i+1,rfl,by omega,HCN.out,NB.out⟩ ?_;simp [intOf];omega
     ·obtain rfl:i=m.eF.length:=by omega
      replace HF:=V (HF.out.trans (az (by rw [HCF.out];simp)));clear q hi HCF;by_cases qe:m.eP.length≠0/\m.mem.has=false
      ·replace HF:=V (HF.out.trans (aE qe))
       have f1:decide ((0:Int) < (m.eP.length:Int))=true:=ay (by have:=qe.1;omega);have f2:decide (0 < m.eP.length)=true:=ay (by have:=qe.1;omega);rw [qe.2]at g6;clear qe;go_wp2
       go_ret2
       exact jk.mk HF.out (by decide) HS.out rfl
      replace HF:=V (HF.out.trans (az qe));by_cases q0:m.eP.length=0
      ·have f1:decide ((0:Int) < (m.eP.length:Int))=false:=aw (by omega)
       have f2:decide (0 < m.eP.length)=false:=aw (by omega);clear qe q0;go_wp2
       go_ret2
       exact jk.mk HF.out (by decide) HS.out rfl
      ·have f1:decide ((0:Int) < (m.eP.length:Int))=true:=ay (by omega)
       have f2:decide (0 < m.eP.length)=true:=ay (by omega);have f3:m.mem.has=true:=by
        cases hh:m.mem.has with
        | true=>rfl
        | false=>exact absurd ⟨q0,hh⟩ qe
       rw [f3]at g6;clear qe q0 f3;go_wp2
       go_ret2
       exact jk.mk HF.out (by decide) HS.out rfl
   ·have f1:decide ((0:Int) < (m.elems.length:Int))=true:=ay (by omega)
    have f2:decide (0 < m.elems.length)=true:=ay (by omega);have f3:m.table.has=true:=by
     cases hh:m.table.has with
     | true=>rfl
     | false=>exact absurd ⟨q0,hh⟩ qe
    rw [f3]at g3;clear qe q0 f3;go_wp2_with fail;clear f1 f2;refine(vt (fun x=>x.funcs.any fun f=>ml m f) _ m.elems _ (HI.out.2.2.2.2.2.1.ext (Ext.et HS.out) (fun _ _ h=>h.ext (Ext.et HS.out))) 78 #[.pointer (some ⟨w.heap.size+2,0,none⟩)] (fun _ _=>by rfl) (fun e _ u w' hb hu=>qZ m w.heap.size (w.heap.size+2) e u w' a1 a2 c1 c2 ((Ext.et hb).1 _ _ HX.out.mod.2.1) ((Ext.et hb).1 _ _ HX.out.mod.2.2.1) hn ((Ext.et hb).1 _ _ H5.out) hu)).mono ?_;rintro x w7 ⟨rfl,hb⟩;replace HX:=V (HX.out.below hb HX.out.lt);replace HS:=V (HS.out.trans (hb.mono HS.out.size));replace H4:=V ((Ext.et hb).1 _ _ H4.out);replace H5:=V ((Ext.et hb).1 _ _ H5.out);clear hb;clear g0 g1 g2 g4 g5 g6 g7 g8 g9 NT NY NZ N0;obtain⟨g0,g1,g2,g3',g4,g5,g6,g7,g8,g9,NT,NY,NZ,N0⟩:=HX.out.mod;clear g3;have g3:=g3';clear g3';obtain⟨r,hr⟩:∃r,(m.elems.any fun x=>x.funcs.any fun f=>ml m f)=r:=⟨_,rfl⟩;rw [hr];cases r;rotate_left
    ·replace HF:=V (HF.out.trans (aE hr))
     clear hr;go_wp2
     go_ret2
     exact jk.mk HF.out (by decide) HS.out rfl
    replace HF:=V (HF.out.trans (az (fun h=>absurd (hr.symm.trans h) (by decide))));clear hr;go_wp2_with fail;clear g0 g1 g2 g3 g4 g5 g6 g7 g8 g9 NT NY NZ N0;refine eR (fun a' w'=>∃(i:Nat),a'=fr (gs a' 0 1 (.pointer (some ⟨w.heap.size,0,none⟩)::gs a' 2 75 (.int .i64 m.eF.length:: .int .i64 i::gs a' 79 17 [])))/\i <=m.eF.length/\jz m i=true/\Below w7.heap.size w7 w') (fun a' _=>(m.eF.length - (intOf (a'.tmps.getD 78 undef)).toNat)) ?_ ?_
    ·exact⟨0,rfl,bg _,rfl,an _ _⟩
    ·skip
     rintro R a' w8 ⟨i,Nm,hJ⟩ HR;dsimp only [fr,gs]at Nm;generalize slot a'=f at Nm;subst Nm;obtain⟨hi,Sj,hb⟩:=hJ;replace HX:=V (HX.out.below hb HX.out.lt);replace HS:=V (HS.out.trans (hb.mono HS.out.size));replace H4:=V ((Ext.et hb).1 _ _ H4.out);replace H5:=V ((Ext.et hb).1 _ _ H5.out);have NB:=V hb;have HCF:=V Sj;clear hb Sj;obtain⟨g0,g1,g2,g3,g4,g5,g6,g7,g8,g9,NT,NY,NZ,N0⟩:=HX.out.mod;by_cases q:i < m.eF.length
     ·go_wp2_with fail
      refine(ow m ⟨.slice a0 m.types.length c0, .slice a1 m.imports.length c1, .slice a2 m.funcs.length c2, .slice a3 m.globals.length c3, .slice a4 m.ey.length c4, .slice a5 m.elems.length c5, .slice a6 m.eF.length c6, .slice a7 m.eP.length c7⟩ i w8 (eG.below HI.out HS.out) O6.out.short (O6.out.eF HE.out)).mono ?_;rintro x w9 ⟨rfl,hb⟩;replace HX:=V (HX.out.below hb HX.out.lt);replace HS:=V (HS.out.trans (hb.mono HS.out.size));replace H4:=V ((Ext.et hb).1 _ _ H4.out);replace H5:=V ((Ext.et hb).1 _ _ H5.out);replace NB:=V (NB.out.trans (hb.mono NB.out.size));clear hb g0 g1 g2 g3 g4 g5 g6 g7 g8 g9 NT NY NZ N0;obtain⟨r,hr⟩:∃r,gb m i=r:=⟨_,rfl⟩;rw [hr];have HCN:=V (show jz m (i+1)=r by rw [jz,HCF.out,hr];rfl);clear hr;cases r
      ·replace HF:=V (HF.out.trans (aE (nq HCN.out _ (by omega))))
       go_wp2
       go_ret2
       exact jk.mk HF.out (by decide) HS.out rfl
      ·go_wp2
       refine HR.out _ _ ⟨i+1,rfl,by omega,HCN.out,NB.out⟩ ?_;simp [intOf];omega
     ·obtain rfl:i=m.eF.length:=by omega
      replace HF:=V (HF.out.trans (az (by rw [HCF.out];simp)));clear q hi HCF;by_cases qe:m.eP.length≠0/\m.mem.has=false
      ·replace HF:=V (HF.out.trans (aE qe))
       have f1:decide ((0:Int) < (m.eP.length:Int))=true:=ay (by have:=qe.1;omega);have f2:decide (0 < m.eP.length)=true:=ay (by have:=qe.1;omega);rw [qe.2]at g6;clear qe;go_wp2
       go_ret2
       exact jk.mk HF.out (by decide) HS.out rfl
      replace HF:=V (HF.out.trans (az qe));by_cases q0:m.eP.length=0
      ·have f1:decide ((0:Int) < (m.eP.length:Int))=false:=aw (by omega)
       have f2:decide (0 < m.eP.length)=false:=aw (by omega);clear qe q0;go_wp2
       go_ret2
       exact jk.mk HF.out (by decide) HS.out rfl
      ·have f1:decide ((0:Int) < (m.eP.length:Int))=true:=ay (by omega)
       have f2:decide (0 < m.eP.length)=true:=ay (by omega);have f3:m.mem.has=true:=by
        cases hh:m.mem.has with
        | true=>rfl
        | false=>exact absurd ⟨q0,hh⟩ qe
       rw [f3]at g6;clear qe q0 f3;go_wp2
       go_ret2
       exact jk.mk HF.out (by decide) HS.out rfl
  obtain⟨x,hx⟩:∃x,m.ey[i]?=some x:=⟨_,aq q⟩;have HTN:=V (show mX m [] (m.ey.take (i+1))=(tw || zm m (m.ey.take i) x)by
   rw [aR,hx,HTW.out];exact sz m x _ _)
  obtain⟨_,_,hv,_,_,Nk⟩:=HI.out.2.2.2.2.1.ext (Ext.et HS.out);injection hv with e1 e2 e3;subst e1;obtain⟨b,off,rfl,-,NA⟩:=Nk i x hx;have y0:=NA 0 _ rfl;have y1:=NA 1 _ rfl;rw [aJ]at y0;clear e2 e3 Nk NA hx;obtain⟨xn,xf⟩:=x;have HXB:=V (eS.new w1 #[.string xn, .int .i64 xf] 75);have Nx:=(an w1.heap.size w1).alloc (ag _) (.cells #[.string xn, .int .i64 xf] 75);cases tw
  ·have h5:=(Ext.et Nx).1 _ _ H5.out
   have hb:=Nx;replace HX:=V (HX.out.below hb HX.out.lt);replace HS:=V (HS.out.trans (hb.mono HS.out.size));replace H4:=V ((Ext.et hb).1 _ _ H4.out);replace H5:=V ((Ext.et hb).1 _ _ H5.out);replace NB:=V (NB.out.trans (hb.mono NB.out.size));clear hb Nx;go_wp2_with fail;refine(vW m w.heap.size a1 a2 c1 c2 xf _ HX.out.mod.2.1 HX.out.mod.2.2.1 hn).mono ?_;rintro e w2 ⟨rfl,hb⟩;replace HX:=V (HX.out.below hb HX.out.lt);replace HS:=V (HS.out.trans (hb.mono HS.out.size));replace H4:=V ((Ext.et hb).1 _ _ H4.out);replace H5:=V ((Ext.et hb).1 _ _ H5.out);replace NB:=V (NB.out.trans (hb.mono NB.out.size));replace HXB:=V (HXB.out.below hb HXB.out.lt);clear hb h5 y0 y1;obtain⟨r,hr⟩:∃r,ml m xf=r:=⟨_,rfl⟩;rw [hr];replace HTN:=V (show mX m [] (m.ey.take (i+1))=(r || (m.ey.take i).any fun y=>xn.toList==y.name.toList)by rw [HTN.out, <- hr];rfl);clear hr;cases r
   ·have NT:=HX.out.mod.2.2.2.2.2.2.2.2.2.2.1
    have OC:=xB (some ⟨b,off,none⟩) m.ey.length c4 i (by omega);go_wp2_with fail;refine(Ba (fun y=>xn.toList==y.name.toList) _ (m.ey.take i) _ (eA.take (HI.out.2.2.2.2.1.ext (Ext.et HS.out)) i hi) 71 #[.pointer (some ⟨w1.heap.size,0,none⟩)] (fun _ _=>by rfl) (fun e _ w' hb=>zy ⟨xn,xf⟩ e w1.heap.size w' ((Ext.et hb).1 _ _ (HXB.out.cell 0)))).mono ?_;rintro e w3 ⟨rfl,hb⟩;replace NB:=V (NB.out.trans (hb.mono NB.out.size));clear hb NT OC;obtain⟨r,hr⟩:∃r,((m.ey.take i).any fun y=>xn.toList==y.name.toList)=r:=⟨_,rfl⟩;rw [hr]at HTN⊢;clear hr;go_wp2;refine HR.out _ _ ⟨r,i+1,rfl,by omega,HTN.out.symm,NB.out⟩ ?_;simp [intOf];omega
   ·go_wp2
    refine HR.out _ _ ⟨true,i+1,rfl,by omega,HTN.out.symm,NB.out⟩ ?_;simp [intOf];omega
  ·replace NB:=V (NB.out.trans (Nx.mono NB.out.size))
   clear Nx;go_wp2;refine HR.out _ _ ⟨true,i+1,rfl,by omega,HTN.out.symm,NB.out⟩ ?_;simp [intOf];omega
structure zK where
 table:List Int
 globals:List fi
def oE (w:World) (B X:Nat) (e:zK):Prop:=∃v v',eS w X #[v,v'] 161/\ei 3 1 fk w B v e.table/\ei 52 2 fR w B v' e.globals
def gP (m:eI):zK:=⟨if m.table.has=true then List.replicate m.table.min.toNat (-1)else [],m.globals.map jY.init⟩
def GX (m:eI) (w:World) (e:Ending) (w':World):Prop:=∃X,e= .returned (.pointer (some ⟨X,0,none⟩))/\oE w' w.heap.size X (gP m)/\w.heap.size <=X/\Below w.heap.size w w'
theorem zk (m:eI) (u:eT) (w:World) (hm:eG w u m) (ht:m.table.has=true ->0 <=m.table.min/\m.table.min <=1000) (hg:m.globals.length <=1000):Calls prog 37 #[.agg (u.cells m)] w (GX m w):=by
 have HI:=V hm;obtain⟨a0,c0,a1,c1,a2,c2,a3,c3,a4,c4,a5,c5,a6,c6,a7,c7,rfl⟩:=eG.open hm;clear hm;simp only [eT.cells];have NG:=(an w.heap.size w).alloc (ag _) (.cells #[.slice a0 m.types.length c0, .slice a1 m.imports.length c1, .slice a2 m.funcs.length c2, .bool m.table.has, .int .i64 m.table.min, .int .i64 m.table.max, .bool m.mem.has, .int .i64 m.mem.min, .int .i64 m.mem.max, .slice a3 m.globals.length c3, .slice a4 m.ey.length c4, .slice a5 m.elems.length c5, .slice a6 m.eF.length c6, .slice a7 m.eP.length c7] 35);have HS:=V (NG.alloc (by rw [aC];omega) (.cells #[.slice none 0 0, .slice none 0 0] 161));have HX:=V ((eS.new w #[.slice a0 m.types.length c0, .slice a1 m.imports.length c1, .slice a2 m.funcs.length c2, .bool m.table.has, .int .i64 m.table.min, .int .i64 m.table.max, .bool m.mem.has, .int .i64 m.mem.min, .int .i64 m.mem.max, .slice a3 m.globals.length c3, .slice a4 m.ey.length c4, .slice a5 m.elems.length c5, .slice a6 m.eF.length c6, .slice a7 m.eP.length c7] 35).alloc (.cells #[.slice none 0 0, .slice none 0 0] 161));have hy:=eS.new (w.alloc (.cells #[.slice a0 m.types.length c0, .slice a1 m.imports.length c1, .slice a2 m.funcs.length c2, .bool m.table.has, .int .i64 m.table.min, .int .i64 m.table.max, .bool m.mem.has, .int .i64 m.mem.min, .int .i64 m.mem.max, .slice a3 m.globals.length c3, .slice a4 m.ey.length c4, .slice a5 m.elems.length c5, .slice a6 m.eF.length c6, .slice a7 m.eP.length c7] 35)) #[.slice none 0 0, .slice none 0 0] 161;rw [aC]at hy;have HY:=V hy;clear NG hy;obtain⟨has,hhas⟩:∃has,m.table.has=has:=⟨_,rfl⟩;rw [hhas]at HS HX HY ht⊢;cases has
 ·go_enter func37,ntmps37
  go_wp2_with fail;obtain⟨w5,RO⟩:∃w5,w5=(w.alloc (.cells #[.slice a0 m.types.length c0, .slice a1 m.imports.length c1, .slice a2 m.funcs.length c2, .bool false, .int .i64 m.table.min, .int .i64 m.table.max, .bool m.mem.has, .int .i64 m.mem.min, .int .i64 m.mem.max, .slice a3 m.globals.length c3, .slice a4 m.ey.length c4, .slice a5 m.elems.length c5, .slice a6 m.eF.length c6, .slice a7 m.eP.length c7] 35)).alloc (.cells #[.slice none 0 0, .slice none 0 0] 161):=⟨_,rfl⟩;rw [<- RO]at HS HX HY⊢;clear RO;have HP:=V (show oE w5 w.heap.size (w.heap.size+1) ⟨[],[]⟩from⟨_,_,HY.out,ei.nil _ _,ei.nil _ _⟩);have HT:=V (show gP m=⟨[],m.globals.map jY.init⟩by unfold gP;rw [hhas];rfl);clear HX HY;refine eR (fun a' w'=>∃(i:Nat),a'=fr (gs a' 0 3 (.pointer (some ⟨w.heap.size+1,0,none⟩)::gs a' 4 17 (.slice a3 m.globals.length c3:: .int .i64 m.globals.length:: .int .i64 i::gs a' 24 16 [])))/\i <=m.globals.length/\oE w' w.heap.size (w.heap.size+1) ⟨[],(m.globals.take i).map jY.init⟩/\Below w.heap.size w w') (fun a' _=>(m.globals.length - (intOf (a'.tmps.getD 23 undef)).toNat)) ?_ ?_
  ·exact⟨0,rfl,bg _,HP.out,HS.out⟩
  ·skip
   rintro R a' w1 ⟨i,Nm,hJ⟩ HR;dsimp only [fr,gs]at Nm;generalize slot a'=f at Nm;subst Nm;obtain⟨hi,Sr,hb⟩:=hJ;have SQ:=V Sr;have HB:=V hb;clear Sr hb;by_cases q:i < m.globals.length;rotate_left
   ·obtain rfl:i=m.globals.length:=by omega
    go_wp2;go_ret;exact⟨_,rfl,by rw [HT.out];have:=SQ.out;rwa [aU]at this,by omega,HB.out⟩
   obtain⟨x,hx⟩:∃x,m.globals[i]?=some x:=⟨_,aq q⟩;have HXI:=V hx;obtain⟨_,_,hv,_,_,Nk⟩:=HI.out.2.2.2.1.ext (Ext.et HB.out);injection hv with e1 e2 e3;subst e1;obtain⟨b,off,rfl,-,NA⟩:=Nk i x hx;have y0:=NA 0 _ rfl;have y1:=NA 1 _ rfl;have y2:=NA 2 _ rfl;rw [aJ]at y0;obtain⟨gv,⟨gk,gn⟩⟩:=x;obtain⟨v,v',ND,P9,NU⟩:=SQ.out;have TG:((m.globals.take i).map jY.init).length=i:=by rw [bJ,aP];omega
   obtain⟨av,cv,Om,-,-⟩:=NU.slice;rw [TG]at Om;subst Om;have Nx:=(an w1.heap.size w1).alloc (ag _) (.cells #[.bool gv, .int .i64 gk, .int .i64 gn] 73);have HG:=V (eS.new w1 #[.bool gv, .int .i64 gk, .int .i64 gn] 73).drew;have Oq:=V (ND.below Nx ND.lt).drew;have OV:=V (show ei _ _ _ (w1.alloc (.cells #[.bool gv, .int .i64 gk, .int .i64 gn] 73)).drew _ _ _ from P9.below Nx.drew);have OO:=V (show ei _ _ _ (w1.alloc (.cells #[.bool gv, .int .i64 gk, .int .i64 gn] 73)).drew _ _ _ from NU.below Nx.drew);have NQ:=V (HB.out.trans (Nx.mono HB.out.size)).drew;have s1:World.cell? _ ⟨w.heap.size+1,1,none⟩=some (.slice av i cv):=Oq.out.cell 1;have s2:World.cell? _ ⟨w1.heap.size,1,none⟩=some (.int .i64 gk):=HG.out.cell 1;have s3:World.cell? _ ⟨w1.heap.size,2,none⟩=some (.int .i64 gn):=HG.out.cell 2;clear e2 e3 Nk NA hx ND P9 NU Nx;go_wp2_with fail;refine eY (fun w'=>w'.cell? ⟨w.heap.size+1,1,none⟩=some (.slice av i cv)/\w'.cell? ⟨w1.heap.size,1,none⟩=some (.int .i64 gk)/\w'.cell? ⟨w1.heap.size,2,none⟩=some (.int .i64 gn)) 11 (up 0 7 ((7,false)::(8,false)::(9,true)::(10,true)::[])) (by kernel_rfl) (by kernel_rfl) ⟨s1,s2,s3⟩ ?_;clear s1 s2 s3 y0 y1 y2;generalize(w1.alloc (.cells #[.bool gv, .int .i64 gk, .int .i64 gn] 73)).drew=w2 at HG Oq OV OO NQ⊢;iterate 7 (first | (apply sk rfl rfl;simp only [pt]) | (apply eo rfl rfl rfl;·(rintro w' ⟨t0,t1,t2⟩;go_wp2;exact⟨rfl,rfl,rfl⟩)))
   refine ew rfl rfl ?_;go_wp2_with fail;refine⟨⟨(Oq.out.alloc _).cell 1,(HG.out.alloc _).cell 1,(HG.out.alloc _).cell 2⟩,?_⟩;refine ew rfl rfl ?_;go_wp2_with (first | (at_builtin;refine fw w2 rfl _ _ 47 rfl _ 16 (by kernel_rfl) jB rfl (by decide) (by decide) w.heap.size (.slice av i cv) ((m.globals.take i).map jY.init) rfl OO.out (⟨gk,gn⟩:fi) _ rfl rfl (lx _) rfl (by rw [TG];omega) NQ.out.size ?_));intro v2 w3 O9 Oo PW;obtain⟨a3',c3',Om,-,-⟩:=O9.slice;replace Om:v2= .slice a3' (i+1) c3':=by rw [Om];congr 1;simp;omega
   subst Om;have hnb:=ei.gF OO.out Oq.out (by decide);have hng:=ei.gF OO.out HG.out (by decide);replace Oq:=V (Oq.out.keeps Oo (fun h=>hnb _ h rfl));replace HG:=V (HG.out.keeps Oo (fun h=>hng _ h rfl));replace OV:=V (OV.out.keeps Oo (fun i hi=>ei.ne OV.out OO.out (by decide) i hi));replace NQ:=V (NQ.out.trans (Oo.below NQ.out.size (fun i hi=>(eM OO.out hi).1)));replace OO:=V O9;clear hnb hng Oo PW O9;go_wp2_with fail;refine⟨⟨Oq.out.cell 1,HG.out.cell 1,HG.out.cell 2⟩,?_⟩;iterate 2 (first | (apply sk rfl rfl;simp only [pt]) | (apply eo rfl rfl rfl;·(rintro w' ⟨t0,t1,t2⟩;go_wp2;exact⟨rfl,rfl,rfl⟩)))
   refine fJ rfl rfl ?_;have c1:w3.cell? ⟨w.heap.size+1,1,none⟩=some (.slice av i cv):=Oq.out.cell 1;have z1:=Oq.out.free 1;go_wp2;refine⟨trivial,?_⟩;refine aA ?_;clear c1 z1;go_wp2_with fail;have Np:=eE w3 (w.heap.size+1) 1 (.slice a3' (i+1) c3');refine HR.out _ _ ⟨i+1,rfl,by omega,⟨_,_,Oq.out.set 1 _,OV.out.keeps Np (ei.gF OV.out Oq.out (by decide)),?_⟩,NQ.out.trans (Np.below NQ.out.size (fun i hi=>by omega))⟩ ?_
   ·rw [aR,HXI.out,ct,List.map_take]
    exact OO.out.keeps Np (ei.gF OO.out Oq.out (by decide))
   ·simp [intOf]
    omega
 ·obtain⟨n,hn⟩:∃n:Nat,m.table.min=n:=⟨m.table.min.toNat,by have:=(ht rfl).1;omega⟩
  have hn2:n <=1000:=by have:=(ht rfl).2;omega
  rw [hn]at HS HX HY⊢;rcases bq n with hz | R0
  ·subst hz
   have e0:((0:Nat):Int)=0:=rfl;rw [e0]at HS HX HY⊢;go_enter func37,ntmps37;go_wp2_with fail;obtain⟨wA,RO⟩:∃wA,wA=(w.alloc (.cells #[.slice a0 m.types.length c0, .slice a1 m.imports.length c1, .slice a2 m.funcs.length c2, .bool true, .int .i64 0, .int .i64 m.table.max, .bool m.mem.has, .int .i64 m.mem.min, .int .i64 m.mem.max, .slice a3 m.globals.length c3, .slice a4 m.ey.length c4, .slice a5 m.elems.length c5, .slice a6 m.eF.length c6, .slice a7 m.eP.length c7] 35)).alloc (.cells #[.slice none 0 0, .slice none 0 0] 161):=⟨_,rfl⟩;rw [<- RO]at HS HX HY⊢;have hAS:wA.heap.size=w.heap.size+2:=by rw [RO];simp
   clear RO;have NP:=(an wA.heap.size wA).alloc (ag _) (.cells #[.int .i64 (-1)] 3);have O9:ei 3 1 fk (wA.alloc (.cells #[.int .i64 (-1)] 3)) wA.heap.size (.slice (some ⟨wA.heap.size,0,none⟩) 1 1) [-1]:=⟨by simp [fk], .inr ⟨wA.heap.size,1,_,rfl,ag _,eS.new wA _ _,by simp,by simp [maxLen],by simp,by simp [fk]⟩⟩;have hi3:=O9.fT fI;rw [hAS]at hi3;refine(rA _ 1 (-1) 0 (by omega) _ hi3).mono ?_;rintro e w4 ⟨g,rfl,ho,hb⟩;have OG:=NP.trans (hb.mono NP.size);have HY4:=V (HY.out.below OG HY.out.lt);replace HX:=V (HX.out.below OG HX.out.lt);replace HS:=V (HS.out.trans (OG.mono HS.out.size));have TO:wA.heap.size <=(wA.alloc (.cells #[.int .i64 (-1)] 3)).heap.size:=NP.size;have HO:=V (ho.lower (show w.heap.size <=_ by omega));clear hb NP OG ho O9 hi3 TO;have y0:=HY4.out.two.1;have z0:=HY4.out.two.2.2.1;obtain⟨g0,g1,g2,g3,g4,g5,g6,g7,g8,g9,NT,NY,NZ,N0⟩:=HX.out.mod;go_wp2_with fail;clear g0 g1 g2 g3 g4 g5 g6 g7 g8 g9 NT NY NZ N0 y0 z0;have Np:=eE w4 (w.heap.size+1) 0 (.slice (some ⟨g,0,none⟩) 0 0);replace HS:=V (HS.out.trans (Np.below HS.out.size (fun i hi=>by omega)));have HP:=V (show oE _ w.heap.size (w.heap.size+1) ⟨List.replicate 0 (-1),[]⟩from⟨_,_,HY4.out.set 0 (.slice (some ⟨g,0,none⟩) 0 0),HO.out.keeps Np (ei.gF HO.out HY4.out (by decide)),ei.nil _ _⟩);have HT:=V (show gP m=⟨List.replicate 0 (-1),m.globals.map jY.init⟩by unfold gP;rw [hhas,hn];rfl);clear Np HO HY4 HX;generalize w4.setCell ⟨w.heap.size+1,0,none⟩ (.slice (some ⟨g,0,none⟩) 0 0)=w5 at HS HP⊢;refine eR (fun a' w'=>∃(i:Nat),a'=fr (gs a' 0 3 (.pointer (some ⟨w.heap.size+1,0,none⟩)::gs a' 4 17 (.slice a3 m.globals.length c3:: .int .i64 m.globals.length:: .int .i64 i::gs a' 24 16 [])))/\i <=m.globals.length/\oE w' w.heap.size (w.heap.size+1) ⟨List.replicate 0 (-1),(m.globals.take i).map jY.init⟩/\Below w.heap.size w w') (fun a' _=>(m.globals.length - (intOf (a'.tmps.getD 23 undef)).toNat)) ?_ ?_
   ·exact⟨0,rfl,bg _,HP.out,HS.out⟩
   ·skip
    rintro R a' w1 ⟨i,Nm,hJ⟩ HR;dsimp only [fr,gs]at Nm;generalize slot a'=f at Nm;subst Nm;obtain⟨hi,Sr,hb⟩:=hJ;have SQ:=V Sr;have HB:=V hb;clear Sr hb;by_cases q:i < m.globals.length;rotate_left
    ·obtain rfl:i=m.globals.length:=by omega
     go_wp2;go_ret;exact⟨_,rfl,by rw [HT.out];have:=SQ.out;rwa [aU]at this,by omega,HB.out⟩
    obtain⟨x,hx⟩:∃x,m.globals[i]?=some x:=⟨_,aq q⟩;have HXI:=V hx;obtain⟨_,_,hv,_,_,Nk⟩:=HI.out.2.2.2.1.ext (Ext.et HB.out);injection hv with e1 e2 e3;subst e1;obtain⟨b,off,rfl,-,NA⟩:=Nk i x hx;have y0:=NA 0 _ rfl;have y1:=NA 1 _ rfl;have y2:=NA 2 _ rfl;rw [aJ]at y0;obtain⟨gv,⟨gk,gn⟩⟩:=x;obtain⟨v,v',ND,P9,NU⟩:=SQ.out;have TG:((m.globals.take i).map jY.init).length=i:=by rw [bJ,aP];omega
    obtain⟨av,cv,Om,-,-⟩:=NU.slice;rw [TG]at Om;subst Om;have Nx:=(an w1.heap.size w1).alloc (ag _) (.cells #[.bool gv, .int .i64 gk, .int .i64 gn] 73);have HG:=V (eS.new w1 #[.bool gv, .int .i64 gk, .int .i64 gn] 73).drew;have Oq:=V (ND.below Nx ND.lt).drew;have OV:=V (show ei _ _ _ (w1.alloc (.cells #[.bool gv, .int .i64 gk, .int .i64 gn] 73)).drew _ _ _ from P9.below Nx.drew);have OO:=V (show ei _ _ _ (w1.alloc (.cells #[.bool gv, .int .i64 gk, .int .i64 gn] 73)).drew _ _ _ from NU.below Nx.drew);have NQ:=V (HB.out.trans (Nx.mono HB.out.size)).drew;have s1:World.cell? _ ⟨w.heap.size+1,1,none⟩=some (.slice av i cv):=Oq.out.cell 1;have s2:World.cell? _ ⟨w1.heap.size,1,none⟩=some (.int .i64 gk):=HG.out.cell 1;have s3:World.cell? _ ⟨w1.heap.size,2,none⟩=some (.int .i64 gn):=HG.out.cell 2;clear e2 e3 Nk NA hx ND P9 NU Nx;go_wp2_with fail;refine eY (fun w'=>w'.cell? ⟨w.heap.size+1,1,none⟩=some (.slice av i cv)/\w'.cell? ⟨w1.heap.size,1,none⟩=some (.int .i64 gk)/\w'.cell? ⟨w1.heap.size,2,none⟩=some (.int .i64 gn)) 11 (up 0 7 ((7,false)::(8,false)::(9,true)::(10,true)::[])) (by kernel_rfl) (by kernel_rfl) ⟨s1,s2,s3⟩ ?_;clear s1 s2 s3 y0 y1 y2;generalize(w1.alloc (.cells #[.bool gv, .int .i64 gk, .int .i64 gn] 73)).drew=w2 at HG Oq OV OO NQ⊢;iterate 7 (first | (apply sk rfl rfl;simp only [pt]) | (apply eo rfl rfl rfl;·(rintro w' ⟨t0,t1,t2⟩;go_wp2;exact⟨rfl,rfl,rfl⟩)))
    refine ew rfl rfl ?_;go_wp2_with fail;refine⟨⟨(Oq.out.alloc _).cell 1,(HG.out.alloc _).cell 1,(HG.out.alloc _).cell 2⟩,?_⟩;refine ew rfl rfl ?_;go_wp2_with (first | (at_builtin;refine fw w2 rfl _ _ 47 rfl _ 16 (by kernel_rfl) jB rfl (by decide) (by decide) w.heap.size (.slice av i cv) ((m.globals.take i).map jY.init) rfl OO.out (⟨gk,gn⟩:fi) _ rfl rfl (lx _) rfl (by rw [TG];omega) NQ.out.size ?_));intro v2 w3 O9 Oo PW;obtain⟨a3',c3',Om,-,-⟩:=O9.slice;replace Om:v2= .slice a3' (i+1) c3':=by rw [Om];congr 1;simp;omega
    subst Om;have hnb:=ei.gF OO.out Oq.out (by decide);have hng:=ei.gF OO.out HG.out (by decide);replace Oq:=V (Oq.out.keeps Oo (fun h=>hnb _ h rfl));replace HG:=V (HG.out.keeps Oo (fun h=>hng _ h rfl));replace OV:=V (OV.out.keeps Oo (fun i hi=>ei.ne OV.out OO.out (by decide) i hi));replace NQ:=V (NQ.out.trans (Oo.below NQ.out.size (fun i hi=>(eM OO.out hi).1)));replace OO:=V O9;clear hnb hng Oo PW O9;go_wp2_with fail;refine⟨⟨Oq.out.cell 1,HG.out.cell 1,HG.out.cell 2⟩,?_⟩;iterate 2 (first | (apply sk rfl rfl;simp only [pt]) | (apply eo rfl rfl rfl;·(rintro w' ⟨t0,t1,t2⟩;go_wp2;exact⟨rfl,rfl,rfl⟩)))
    refine fJ rfl rfl ?_;have c1:w3.cell? ⟨w.heap.size+1,1,none⟩=some (.slice av i cv):=Oq.out.cell 1;have z1:=Oq.out.free 1;go_wp2;refine⟨trivial,?_⟩;refine aA ?_;clear c1 z1;go_wp2_with fail;have Np:=eE w3 (w.heap.size+1) 1 (.slice a3' (i+1) c3');refine HR.out _ _ ⟨i+1,rfl,by omega,⟨_,_,Oq.out.set 1 _,OV.out.keeps Np (ei.gF OV.out Oq.out (by decide)),?_⟩,NQ.out.trans (Np.below NQ.out.size (fun i hi=>by omega))⟩ ?_
    ·rw [aR,HXI.out,ct,List.map_take]
     exact OO.out.keeps Np (ei.gF OO.out Oq.out (by decide))
    ·simp [intOf]
     omega
  ·skip
   go_enter func37,ntmps37;go_wp2_with fail;obtain⟨wA,RO⟩:∃wA,wA=(w.alloc (.cells #[.slice a0 m.types.length c0, .slice a1 m.imports.length c1, .slice a2 m.funcs.length c2, .bool true, .int .i64 n, .int .i64 m.table.max, .bool m.mem.has, .int .i64 m.mem.min, .int .i64 m.mem.max, .slice a3 m.globals.length c3, .slice a4 m.ey.length c4, .slice a5 m.elems.length c5, .slice a6 m.eF.length c6, .slice a7 m.eP.length c7] 35)).alloc (.cells #[.slice none 0 0, .slice none 0 0] 161):=⟨_,rfl⟩;rw [<- RO]at HS HX HY⊢;have hAS:wA.heap.size=w.heap.size+2:=by rw [RO];simp
   clear RO;have NP:=(an wA.heap.size wA).alloc (ag _) (.cells #[.int .i64 (-1)] 3);have O9:ei 3 1 fk (wA.alloc (.cells #[.int .i64 (-1)] 3)) wA.heap.size (.slice (some ⟨wA.heap.size,0,none⟩) 1 1) [-1]:=⟨by simp [fk], .inr ⟨wA.heap.size,1,_,rfl,ag _,eS.new wA _ _,by simp,by simp [maxLen],by simp,by simp [fk]⟩⟩;have hi3:=O9.fT fI;rw [hAS]at hi3;refine(rA _ 1 (-1) n (by omega) _ hi3).mono ?_;rintro e w4 ⟨g,rfl,ho,hb⟩;have OG:=NP.trans (hb.mono NP.size);have HY4:=V (HY.out.below OG HY.out.lt);replace HX:=V (HX.out.below OG HX.out.lt);replace HS:=V (HS.out.trans (OG.mono HS.out.size));have TO:wA.heap.size <=(wA.alloc (.cells #[.int .i64 (-1)] 3)).heap.size:=NP.size;have HO:=V (ho.lower (show w.heap.size <=_ by omega));clear hb NP OG ho O9 hi3 TO;have y0:=HY4.out.two.1;have z0:=HY4.out.two.2.2.1;obtain⟨g0,g1,g2,g3,g4,g5,g6,g7,g8,g9,NT,NY,NZ,N0⟩:=HX.out.mod;go_wp2_with fail;clear g0 g1 g2 g3 g4 g5 g6 g7 g8 g9 NT NY NZ N0 y0 z0;have Np:=eE w4 (w.heap.size+1) 0 (.slice (some ⟨g,0,none⟩) n n);replace HS:=V (HS.out.trans (Np.below HS.out.size (fun i hi=>by omega)));have HP:=V (show oE _ w.heap.size (w.heap.size+1) ⟨List.replicate n (-1),[]⟩from⟨_,_,HY4.out.set 0 (.slice (some ⟨g,0,none⟩) n n),HO.out.keeps Np (ei.gF HO.out HY4.out (by decide)),ei.nil _ _⟩);have HT:=V (show gP m=⟨List.replicate n (-1),m.globals.map jY.init⟩by unfold gP;rw [hhas,hn];rfl);clear Np HO HY4 HX;generalize w4.setCell ⟨w.heap.size+1,0,none⟩ (.slice (some ⟨g,0,none⟩) n n)=w5 at HS HP⊢;refine eR (fun a' w'=>∃(i:Nat),a'=fr (gs a' 0 3 (.pointer (some ⟨w.heap.size+1,0,none⟩)::gs a' 4 17 (.slice a3 m.globals.length c3:: .int .i64 m.globals.length:: .int .i64 i::gs a' 24 16 [])))/\i <=m.globals.length/\oE w' w.heap.size (w.heap.size+1) ⟨List.replicate n (-1),(m.globals.take i).map jY.init⟩/\Below w.heap.size w w') (fun a' _=>(m.globals.length - (intOf (a'.tmps.getD 23 undef)).toNat)) ?_ ?_
   ·exact⟨0,rfl,bg _,HP.out,HS.out⟩
   ·skip
    rintro R a' w1 ⟨i,Nm,hJ⟩ HR;dsimp only [fr,gs]at Nm;generalize slot a'=f at Nm;subst Nm;obtain⟨hi,Sr,hb⟩:=hJ;have SQ:=V Sr;have HB:=V hb;clear Sr hb;by_cases q:i < m.globals.length;rotate_left
    ·obtain rfl:i=m.globals.length:=by omega
     go_wp2;go_ret;exact⟨_,rfl,by rw [HT.out];have:=SQ.out;rwa [aU]at this,by omega,HB.out⟩
    obtain⟨x,hx⟩:∃x,m.globals[i]?=some x:=⟨_,aq q⟩;have HXI:=V hx;obtain⟨_,_,hv,_,_,Nk⟩:=HI.out.2.2.2.1.ext (Ext.et HB.out);injection hv with e1 e2 e3;subst e1;obtain⟨b,off,rfl,-,NA⟩:=Nk i x hx;have y0:=NA 0 _ rfl;have y1:=NA 1 _ rfl;have y2:=NA 2 _ rfl;rw [aJ]at y0;obtain⟨gv,⟨gk,gn⟩⟩:=x;obtain⟨v,v',ND,P9,NU⟩:=SQ.out;have TG:((m.globals.take i).map jY.init).length=i:=by rw [bJ,aP];omega
    obtain⟨av,cv,Om,-,-⟩:=NU.slice;rw [TG]at Om;subst Om;have Nx:=(an w1.heap.size w1).alloc (ag _) (.cells #[.bool gv, .int .i64 gk, .int .i64 gn] 73);have HG:=V (eS.new w1 #[.bool gv, .int .i64 gk, .int .i64 gn] 73).drew;have Oq:=V (ND.below Nx ND.lt).drew;have OV:=V (show ei _ _ _ (w1.alloc (.cells #[.bool gv, .int .i64 gk, .int .i64 gn] 73)).drew _ _ _ from P9.below Nx.drew);have OO:=V (show ei _ _ _ (w1.alloc (.cells #[.bool gv, .int .i64 gk, .int .i64 gn] 73)).drew _ _ _ from NU.below Nx.drew);have NQ:=V (HB.out.trans (Nx.mono HB.out.size)).drew;have s1:World.cell? _ ⟨w.heap.size+1,1,none⟩=some (.slice av i cv):=Oq.out.cell 1;have s2:World.cell? _ ⟨w1.heap.size,1,none⟩=some (.int .i64 gk):=HG.out.cell 1;have s3:World.cell? _ ⟨w1.heap.size,2,none⟩=some (.int .i64 gn):=HG.out.cell 2;clear e2 e3 Nk NA hx ND P9 NU Nx;go_wp2_with fail;refine eY (fun w'=>w'.cell? ⟨w.heap.size+1,1,none⟩=some (.slice av i cv)/\w'.cell? ⟨w1.heap.size,1,none⟩=some (.int .i64 gk)/\w'.cell? ⟨w1.heap.size,2,none⟩=some (.int .i64 gn)) 11 (up 0 7 ((7,false)::(8,false)::(9,true)::(10,true)::[])) (by kernel_rfl) (by kernel_rfl) ⟨s1,s2,s3⟩ ?_;clear s1 s2 s3 y0 y1 y2;generalize(w1.alloc (.cells #[.bool gv, .int .i64 gk, .int .i64 gn] 73)).drew=w2 at HG Oq OV OO NQ⊢;iterate 7 (first | (apply sk rfl rfl;simp only [pt]) | (apply eo rfl rfl rfl;·(rintro w' ⟨t0,t1,t2⟩;go_wp2;exact⟨rfl,rfl,rfl⟩)))
    refine ew rfl rfl ?_;go_wp2_with fail;refine⟨⟨(Oq.out.alloc _).cell 1,(HG.out.alloc _).cell 1,(HG.out.alloc _).cell 2⟩,?_⟩;refine ew rfl rfl ?_;go_wp2_with (first | (at_builtin;refine fw w2 rfl _ _ 47 rfl _ 16 (by kernel_rfl) jB rfl (by decide) (by decide) w.heap.size (.slice av i cv) ((m.globals.take i).map jY.init) rfl OO.out (⟨gk,gn⟩:fi) _ rfl rfl (lx _) rfl (by rw [TG];omega) NQ.out.size ?_));intro v2 w3 O9 Oo PW;obtain⟨a3',c3',Om,-,-⟩:=O9.slice;replace Om:v2= .slice a3' (i+1) c3':=by rw [Om];congr 1;simp;omega
    subst Om;have hnb:=ei.gF OO.out Oq.out (by decide);have hng:=ei.gF OO.out HG.out (by decide);replace Oq:=V (Oq.out.keeps Oo (fun h=>hnb _ h rfl));replace HG:=V (HG.out.keeps Oo (fun h=>hng _ h rfl));replace OV:=V (OV.out.keeps Oo (fun i hi=>ei.ne OV.out OO.out (by decide) i hi));replace NQ:=V (NQ.out.trans (Oo.below NQ.out.size (fun i hi=>(eM OO.out hi).1)));replace OO:=V O9;clear hnb hng Oo PW O9;go_wp2_with fail;refine⟨⟨Oq.out.cell 1,HG.out.cell 1,HG.out.cell 2⟩,?_⟩;iterate 2 (first | (apply sk rfl rfl;simp only [pt]) | (apply eo rfl rfl rfl;·(rintro w' ⟨t0,t1,t2⟩;go_wp2;exact⟨rfl,rfl,rfl⟩)))
    refine fJ rfl rfl ?_;have c1:w3.cell? ⟨w.heap.size+1,1,none⟩=some (.slice av i cv):=Oq.out.cell 1;have z1:=Oq.out.free 1;go_wp2;refine⟨trivial,?_⟩;refine aA ?_;clear c1 z1;go_wp2_with fail;have Np:=eE w3 (w.heap.size+1) 1 (.slice a3' (i+1) c3');refine HR.out _ _ ⟨i+1,rfl,by omega,⟨_,_,Oq.out.set 1 _,OV.out.keeps Np (ei.gF OV.out Oq.out (by decide)),?_⟩,NQ.out.trans (Np.below NQ.out.size (fun i hi=>by omega))⟩ ?_
    ·rw [aR,HXI.out,ct,List.map_take]
     exact OO.out.keeps Np (ei.gF OO.out Oq.out (by decide))
    ·simp [intOf]
     omega
theorem pG (a:Option Addr) (len cap:Nat) (h2:len <=cap) (ha:a=none ->cap=0):
  ∃dp,∀wx,(Instr.slice 26 (.slice a len cap) (some (.int .i64 len)) none none).run prog wx= .ok (.slice dp 0 (cap - len)) wx:=by
 have hu:prog.underlying 26=some (.slice 3):=by kernel_rfl
 obtain⟨i0,hi,Po,Oi,O1⟩:=bS jT;cases a with
 | none=>
  have:=ha rfl;subst this;obtain rfl:len=0:=by omega
  exact⟨none,fun wx=>by simp [Instr.slice,aZ hu,Instr.sliceBounds,Instr.sliceBound,sizeOf,typeInfo,hi,asIntOf,Addr.add]⟩
 | some a=>
  by_cases q:cap=len
  ·exact⟨some a,fun wx=>by simp [Instr.slice,aZ hu,Instr.sliceBounds,Instr.sliceBound,sizeOf,typeInfo,hi,asIntOf,Addr.add,q]⟩
  ·exact⟨some (a.add len),fun wx=>by simp [Instr.slice,aZ hu,Instr.sliceBounds,Instr.sliceBound,sizeOf,typeInfo,hi,Oi,asIntOf,Addr.add,q]⟩
theorem KS (l:List Int):l.flatMap fk=l.map (Value.int .i64):=by
 induction l with
 | nil=>rfl
 | cons x l ih=>rw [bK,ih];rfl
theorem BZ {α:Type} (cur T fs:List α) (k len:Nat) (ht:cur.take len=T) (hl:k+fs.length <=len) (hT:T.length=len):(cur.take k++(fs++cur.drop (k+fs.length))).take len=T.take k++fs++T.drop (k+fs.length):=by
 have hc:len <=cur.length:=by rw [<- ht,aP]at hT;omega
 have h1:T.take k=cur.take k:=by rw [<- ht,List.take_take,cq (by omega)]
 have h2:T.drop (k+fs.length)=(cur.drop (k+fs.length)).take (len - (k+fs.length)):=by rw [<- ht,List.drop_take]
 rw [h1,h2,List.take_append,List.take_append,aL,aP,cq (by omega),cW (by rw [aP];omega),cW (l:=fs) (by omega),show len - k - fs.length=len - (k+fs.length)by omega]
theorem Ak (w:World) (g:Nat) (cs:Array Value):ep (fun i=>i=g) w (w.setRow g cs):=⟨rfl,rfl,rfl,by simp [World.setRow],fun k _ hk=>setRow_other w g k cs hk⟩
def iZ (e:zK) (off:Int) (fs:List Int):Option zK:=
 if off < 0\/(e.table.length:Int) - fs.length < off then none else some {e with table:=e.table.take off.toNat++fs++e.table.drop (off.toNat+fs.length)}
def Ib (w:World) (B:Nat) (i:Nat):Prop:=B <=i/\∃xs,eS w i xs 3
def Jp (B X:Nat) (e:zK) (off:Int) (fs:List Int) (w:World) (en:Ending) (w':World):Prop:=
 en= .returned (.bool (iZ e off fs).isSome)/\oE w' B X ((iZ e off fs).getD e)/\ep (Ib w B) w w'
theorem zh (w:World) (B X:Nat) (e:zK) (fv:Value) (off:Int) (fs:List Int) (h:oE w B X e) (hf:eA 1 fk w fv fs):Calls prog 38 #[.pointer (some ⟨X,0,none⟩), .int .i64 off,fv] w (Jp B X e off fs w):=by
 have SQ:=V h;obtain⟨v,v',hx,P9,NU⟩:=h;obtain⟨av,cv,rfl,Oh,OS⟩:=P9.slice;obtain⟨af,cf,rfl,Sj,hcfm⟩:=fH hf;have x0:w.cell? ⟨X,0,none⟩=some (.slice av e.table.length cv):=hx.cell 0;have HFS:=V hf;have HX:=V hx;have OV:=V P9;have OO:=V NU;clear hf hx P9 NU;by_cases q1:off < 0
 ·have f1:decide (off < 0)=true:=ay q1
  have HE:=V (show iZ e off fs=none by unfold iZ;rw [if_pos (.inl q1)]);go_enter func38,ntmps38;go_wp2;go_ret;exact⟨by rw [HE.out];rfl,by rw [HE.out];exact SQ.out,ep.refl _ _⟩
 have f1:decide (off < 0)=false:=aw q1;by_cases q2:(e.table.length:Int) - fs.length < off
 ·have f2:decide ((e.table.length:Int) - (fs.length:Int) < off)=true:=ay q2
  have HE:=V (show iZ e off fs=none by unfold iZ;rw [if_pos (.inr q2)]);go_enter func38,ntmps38;go_wp2;go_ret;exact⟨by rw [HE.out];rfl,by rw [HE.out];exact SQ.out,ep.refl _ _⟩
 have f2:decide ((e.table.length:Int) - (fs.length:Int) < off)=false:=aw q2;obtain⟨k,rfl⟩:∃k:Nat,off=k:=⟨off.toNat,by omega⟩;have N8:k+fs.length <=e.table.length:=by omega
 have HE:=V (show iZ e k fs=some {e with table:=e.table.take k++fs++e.table.drop (k+fs.length)}by unfold iZ;rw [if_neg (by omega),Int.toNat_natCast]);have PD:cv <=9223372036854775807:=OS;clear q1 q2;by_cases q:fs.length=0
 ·have hE:iZ e k fs=some e:=by
   rw [HE.out,aI q,bR,aH,aJ,cE]
  obtain⟨dp,OC⟩:∃dp,∀wx,(Instr.slice 26 (.slice av e.table.length cv) (some (.int .i64 k)) none none).run prog wx= .ok (.slice dp (e.table.length - k) (cv - k)) wx:=by
   by_cases ql:k < e.table.length
   ·obtain⟨g,cap,cur,hv,-⟩:=OV.out.open (by intro h;rw [h]at ql;simp at ql)
    injection hv with e1 e2 e3;subst e1;exact⟨_,fun wx=>kK g _ cv k ql Oh wx⟩
   ·obtain rfl:k=e.table.length:=by omega
    have ha:av=none ->cv=0:=by
     intro h;obtain⟨_,hv | ⟨g,cap,cur,hv,-⟩⟩:=OV.out
     ·have:=hv.1
      injection this
     ·rw [h]at hv
      injection hv with e1;cases e1
    obtain⟨dp,h⟩:=pG av e.table.length cv Oh ha;exact⟨dp,fun wx=>by rw [h wx,Nat.sub_self]⟩
  have HE2:=V hE;clear hE HE;go_enter func38,ntmps38;go_wp2_with (first | (refine wpList_copy_nothing rfl (.tmp 30) (.tmp 31) 26 26 rfl 3 (by kernel_rfl) (by kernel_rfl) dp af (e.table.length - k) (cv - k) fs.length cf rfl rfl (by rw [q];exact Nat.zero_min _) ?_));go_ret;exact⟨by rw [HE2.out];rfl,by rw [HE2.out];exact SQ.out,ep.refl _ _⟩
 have Ox:e.table≠[]:=by
  intro h;rw [h,aH]at N8;omega
 obtain⟨hlen,hv | ⟨g,cap,cur,hv,hBg,hg,hn,hm,Oc,ht⟩⟩:=id OV.out
 ·exact absurd (aI hv.2) Ox
 injection hv with e1 e2 e3;subst e1 e3;rw [aW]at Oc ht;rw [KS]at ht;obtain⟨_,_,hvf,_,_,Nk⟩:=HFS.out;injection hvf with e1 e3 e4;subst e1;have hf0:0 < fs.length:=by omega
 obtain⟨bf,off,rfl,hltf,-⟩:=Nk 0 _ (aq hf0);have hsrc:∀j v,(fs.map (Value.int .i64))[j]?=some v ->w.cell? (Addr.add ⟨bf,off,none⟩ j)=some v:=by
  intro j v hj;rw [cC]at hj;cases hx:fs[j]? with
  | none=>rw [hx]at hj;cases hj
  | some y=>
   rw [hx]at hj;injection hj with hj;subst hj;obtain⟨b',off',QU,-,hc⟩:=Nk j y hx;injection QU with QU;injection QU with h1 h2;subst h1 h2;have:=hc 0 _ rfl;rw [aJ,aW]at this;by_cases hj0:j=0
   ·subst hj0
    simpa [Addr.add] using this
   ·simpa [Addr.add,hj0] using this
 have OC:=fun wx=>kK g e.table.length cv k (by omega) Oh wx;have HTT:=V (BZ cur.toList (e.table.map (Value.int .i64)) (fs.map (Value.int .i64)) k e.table.length ht (by rw [bJ];exact N8) (by rw [bJ]));have hcur:k+fs.length <=cur.size:=by omega
 have HSZ:=V Oc;clear e2 Nk ht Oc hlen;go_enter func38,ntmps38;go_wp2_with (first | (refine wpList_copy_own rfl (.tmp 30) (.tmp 31) 26 26 rfl 3 (by kernel_rfl) (by kernel_rfl) g k (e.table.length - k) (cv - k) ⟨bf,off,none⟩ fs.length cf rfl rfl cur 3 hg (fs.map (Value.int .i64)) (by rw [bJ];exact(cq (by omega)).symm) hsrc (by rw [bJ];exact hcur) (fun v hv=>by obtain⟨_,_,rfl⟩:=List.mem_map.1 hv;rfl) ?_));go_wp2;go_ret;have Np:=Ak w g (cur.toList.take k++(fs.map (Value.int .i64)++cur.toList.drop (k+fs.length))).toArray;have Ou:=setRow_heap w g cur (cur.toList.take k++(fs.map (Value.int .i64)++cur.toList.drop (k+fs.length))).toArray 3 _ hg;refine⟨by rw [HE.out];rfl,?_,?_⟩
 ·rw [HE.out]
  show oE _ B X ⟨e.table.take k++fs++e.table.drop (k+fs.length),e.globals⟩;refine⟨_,_,HX.out.keeps Np ?_,?_,OO.out.keeps Np ?_⟩
  ·intro h
   exact ei.gF OV.out HX.out (by decide) g (by simp [eO,Value.ownBlock]) h.symm
  ·have hl:(e.table.take k++fs++e.table.drop (k+fs.length)).length=e.table.length:=by
    simp only [ah,aP,bu];omega
   have h2:=HTT.out;rw [bJ]at h2;show ei _ _ _ _ _ _ (e.table.take k++fs++e.table.drop (k+fs.length));refine⟨by rw [kf fI], .inr ⟨g,cv,_,by rw [hl],hBg,Ou,by rw [hl];exact hn,hm,?_,?_⟩⟩
   ·simp only [dF,ah,aP,bu,bJ,Array.length_toList]
    have:=HSZ.out;omega
   ·rw [hl,aW,KS]
    simp only [ct,List.map_take,List.map_drop];exact h2
  ·intro i hi h
   subst h;have:=ei.ne OO.out OV.out (by decide) i hi;exact this (by simp [eO,Value.ownBlock])
 ·exact Np.mono (fun i hi=>by subst hi;exact⟨hBg,_,hg⟩)
structure gz where
 kind:Int
 lH:Int
 fn:Int
 eu:List fi
deriving DecidableEq
def gz.more:gz:=⟨1,0,0,[]⟩
def gz.full:gz:=⟨5,0,0,[]⟩
def gz.DV (n:Int):gz:=⟨4,n,0,[]⟩
def o8 (c:ij):List kG:=(fM c.body).getD []
def km (m:eI) (f:Int):Bool:=decide (0 <=f)&&decide (f < m.imports.length)
section
def nR (w:World) (f:fg) (u:Value × Value):Prop:=ei 52 2 fR w 0 u.1 f.locals/\ei 144 2 kP w 0 u.2 f.labels
def ic (w:World):List fg ->List (Value × Value) ->Prop
 | [],[]=>True
 | f::l,u::us=>nR w f u/\ic w l us
 | [],_::_=>False
 | _::_,[]=>False
theorem ic.len {w:World}:∀{l:List fg} {us:List (Value × Value)},ic w l us ->us.length=l.length
 | [],[],_=>rfl
 | _::l,_::us,h=>by rw [aD,aD,ic.len (l:=l) (us:=us) h.2]
 | [],_::_,h=>h.elim
 | _::_,[],h=>h.elim
theorem ic.snoc {w:World} {f:fg} {u:Value × Value}:∀{l:List fg} {us:List (Value × Value)},ic w l us ->nR w f u ->ic w (l++[f]) (us++[u])
 | [],[],_,h=>⟨h,trivial⟩
 | _::l,_::us,h,k=>⟨h.1,ic.snoc (l:=l) (us:=us) h.2 k⟩
 | [],_::_,h,_=>h.elim
 | _::_,[],h,_=>h.elim
theorem ic.open {w:World} {f:fg}:∀{l:List fg} {us:List (Value × Value)},ic w (l++[f]) us ->∃RK u,us=RK++[u]/\ic w l RK/\nR w f u
 | [],[],h=>h.elim
 | [],[u],h=>⟨[],u,rfl,trivial,h.1⟩
 | [],_::_::_,h=>h.2.elim
 | _::_,[],h=>h.elim
 | x::l,v::us,h=>by
  obtain⟨RK,u,rfl,h1,h2⟩:=ic.open (l:=l) (us:=us) h.2;exact⟨v::RK,u,rfl,⟨h.1,h1⟩,h2⟩
theorem ic.to {w w':World}:∀{l:List fg} {us:List (Value × Value)},ic w l us ->(∀f u,u∈us ->nR w f u ->nR w' f u) ->ic w' l us
 | [],[],_,_=>trivial
 | f::l,u::us,h,k=>⟨k f u (by simp) h.1,ic.to (l:=l) (us:=us) h.2 (fun g v hv=>k g v (by simp [hv]))⟩
 | [],_::_,h,_=>h.elim
 | _::_,[],h,_=>h.elim
theorem ic.mem {w:World}:∀{l:List fg} {us:List (Value × Value)} {u:Value × Value},ic w l us ->u∈us ->∃f,nR w f u
 | [],[],_,_,hu=>by simp at hu
 | f::l,v::us,u,h,hu=>by
  rcases bx.1 hu with rfl | hu
  ·exact⟨f,h.1⟩
  ·exact ic.mem (l:=l) (us:=us) h.2 hu
 | [],_::_,_,h,_=>h.elim
 | _::_,[],_,h,_=>h.elim
structure qC where
 uv:Value
 uf:Value
 us:List (Value × Value)
def qC.own (v:qC) (b g:Nat):Prop:=g=b\/eO v.uv g\/eO v.uf g\/∃u∈v.us,eO u.1 g\/eO u.2 g
def gg (pre:List Value) (v:qC) (asks:Int) (post:List Value):Array Value:=(pre++v.uv::v.uf:: .int .i64 asks::post).toArray
def Aw (us:List (Value × Value)):Prop:=us.Pairwise fun a b=>(∀g,eO a.1 g ->¬ eO b.1 g)/\(∀g,eO a.2 g ->¬ eO b.2 g)
structure fV (w:World) (b:Nat) (pre post:List Value) (t:TypeId) (v:qC) (s:fP):Prop where
 jE:eS w b (gg pre v s.asks post) t
 eu:ei 52 2 fR w 0 v.uv s.eu
 ez:ei 124 5 mK w 0 v.uf (s.ez.zip v.us)
 rows:ic w s.ez v.us
 KV:∀u∈v.us,∀g,eO v.uv g ->¬ eO u.1 g
 apart:Aw v.us
 ty:t≠52/\t≠124/\t≠144/\t≠133
section
variable {w w':World} {b:Nat} {pre post:List Value} {t:TypeId} {v:qC} {s:fP}
theorem ei.has {α:Type} {t:TypeId} {k:Nat} {enc:α ->List Value} {B:Nat} {v:Value} {l:List α} (h:ei t k enc w B v l) {g:Nat} (hg:eO v g):∃cur,eS w g cur t:=by
 obtain⟨_,⟨hv,_⟩ | ⟨g',cap,cur,hv,_,hb,_⟩⟩:=h
 ·rw [hv]at hg;simp [eO,Value.ownBlock]at hg
 ·rw [hv]at hg
  simp [eO,Value.ownBlock]at hg;subst hg;exact⟨cur,hb⟩
theorem eS.uniq {X:Nat} {xs ys:Array Value} {t t':TypeId} (h:eS w X xs t) (k:eS w X ys t'):t=t':=by
 have:=h.symm.trans k;injection this with this;injection this
theorem fV.kinds (h:fV w b pre post t v s) {g:Nat} (hg:v.own b g):(g=b)\/∃cur t',eS w g cur t'/\(t'=52\/t'=124\/t'=144):=by
 rcases hg with rfl | hg | hg | ⟨u,hu,hg⟩
 ·exact .inl rfl
 ·obtain⟨cur,hb⟩:=h.eu.has hg
  exact .inr ⟨cur,_,hb, .inl rfl⟩
 ·obtain⟨cur,hb⟩:=h.ez.has hg
  exact .inr ⟨cur,_,hb, .inr (.inl rfl)⟩
 ·obtain⟨f,hf⟩:=h.rows.mem hu
  rcases hg with hg | hg
  ·obtain⟨cur,hb⟩:=hf.1.has hg
   exact .inr ⟨cur,_,hb, .inl rfl⟩
  ·obtain⟨cur,hb⟩:=hf.2.has hg
   exact .inr ⟨cur,_,hb, .inr (.inr rfl)⟩
theorem fV.lt (h:fV w b pre post t v s) {g:Nat} (hg:v.own b g):g < w.heap.size:=by
 rcases h.kinds hg with rfl | ⟨cur,t',hb,_⟩
 ·exact h.jE.lt
 ·exact hb.lt
theorem fV.not (h:fV w b pre post t v s) {X:Nat} {xs:Array Value} {t':TypeId} (hX:eS w X xs t') (hb:X≠b) (ht:t'≠52/\t'≠124/\t'≠144):¬ v.own b X:=by
 intro hg;rcases h.kinds hg with rfl | ⟨cur,t2,No,h2⟩
 ·exact hb rfl
 ·have:=No.uniq hX
  subst this;rcases h2 with h2 | h2 | h2
  ·exact ht.1 h2
  ·exact ht.2.1 h2
  ·exact ht.2.2 h2
theorem nR.keeps {P:Nat ->Prop} {f:fg} {u:Value × Value} (h:nR w f u) (hk:ep P w w') (hP:∀g,eO u.1 g\/eO u.2 g ->¬ P g):nR w' f u:=
 ⟨h.1.keeps hk (fun g hg=>hP g (.inl hg)),h.2.keeps hk (fun g hg=>hP g (.inr hg))⟩
theorem fV.keeps {P:Nat ->Prop} (h:fV w b pre post t v s) (hk:ep P w w') (hP:∀g,v.own b g ->¬ P g):fV w' b pre post t v s:=
 ⟨h.jE.keeps hk (hP b (.inl rfl)),h.eu.keeps hk (fun g hg=>hP g (.inr (.inl hg))),h.ez.keeps hk (fun g hg=>hP g (.inr (.inr (.inl hg)))),
  h.rows.to (fun _ u hu hf=>hf.keeps hk (fun g hg=>hP g (.inr (.inr (.inr ⟨u,hu,hg⟩))))),h.KV,h.apart,h.ty⟩
theorem fV.below (h:fV w b pre post t v s) (hb:Below w.heap.size w w'):fV w' b pre post t v s:=h.keeps (P:=fun _=>False) (ep.et hb) (fun _ _ h=>h)
theorem fV.drew (h:fV w b pre post t v s):fV w.drew b pre post t v s:=h.below (an _ _).drew
theorem fV.alloc (h:fV w b pre post t v s) (o:Obj):fV (w.alloc o) b pre post t v s:=h.below ((an _ _).alloc (ag _) o)
def kt (v v':qC) (b:Nat) (w w':World):Prop:=ep (v.own b) w w'/\∀g,v'.own b g ->v.own b g\/w.heap.size <=g
theorem kt.refl (v:qC) (b:Nat) (w:World):kt v v b w w:=⟨ep.refl _ _,fun _ h=> .inl h⟩
theorem kt.trans {v v' v2:qC} {w2:World} (h:kt v v' b w w') (k:kt v' v2 b w' w2):kt v v2 b w w2:=
 ⟨h.1.trans k.1 (fun g hg=>h.2 g hg),fun g hg=>(k.2 g hg).elim (h.2 g) (fun hg=> .inr (aQ h.1.size hg))⟩
theorem kt.below {v v':qC} {w2:World} (h:kt v v' b w w') (k:Below w'.heap.size w' w2):kt v v' b w w2:=
 ⟨h.1.trans (ep.et (S:=fun _=>False) k) (fun _ h=>h.elim),h.2⟩
theorem kt.et {v:qC} (k:Below w.heap.size w w'):kt v v b w w':=(kt.refl v b w).below k
theorem kt.drew {v v':qC} (h:kt v v' b w w'):kt v v' b w w'.drew:=h.below (an _ _).drew
theorem qo (pre:List Value) (v:qC) (n:Int) (post:List Value):(gg pre v n post)[pre.length]?=some v.uv:=by simp [gg]
theorem BK (pre:List Value) (v:qC) (n:Int) (post:List Value):(gg pre v n post)[pre.length+1]?=some v.uf:=by simp [gg]
theorem FP (pre:List Value) (v:qC) (n:Int) (post:List Value):(gg pre v n post)[pre.length+2]?=some (.int .i64 n):=by simp [gg]
theorem JC (pre:List Value) (v:qC) (n:Int) (post:List Value) (x:Value):(gg pre v n post).setIfInBounds pre.length x=gg pre {v with uv:=x} n post:=by simp [gg]
theorem D8 (pre:List Value) (v:qC) (n:Int) (post:List Value) (x:Value):(gg pre v n post).setIfInBounds (pre.length+1) x=gg pre {v with uf:=x} n post:=by simp [gg]
theorem Ju (pre:List Value) (v:qC) (n:Int) (post:List Value) (x:Int):(gg pre v n post).setIfInBounds (pre.length+2) (.int .i64 x)=gg pre v x post:=by simp [gg]
theorem fV.c0 (h:fV w b pre post t v s):w.cell? ⟨b,pre.length,none⟩=some v.uv:=(h.jE.cell _).trans (qo _ _ _ _)
theorem fV.c1 (h:fV w b pre post t v s):w.cell? ⟨b,pre.length+1,none⟩=some v.uf:=(h.jE.cell _).trans (BK _ _ _ _)
theorem fV.c2 (h:fV w b pre post t v s):w.cell? ⟨b,pre.length+2,none⟩=some (.int .i64 s.asks):=(h.jE.cell _).trans (FP _ _ _ _)
theorem fV.Cg {α:Type} {t':TypeId} {k:Nat} {enc:α ->List Value} {B:Nat} {u:Value} {l:List α} (h:fV w b pre post t v s) (ho:ei t' k enc w B u l) (ht:t'=52\/t'=124\/t'=144):¬ eO u b:=by
 intro hg;obtain⟨cur,hb⟩:=ho.has hg;have:=hb.uniq h.jE;subst this;rcases ht with ht | ht | ht
 ·exact h.ty.1 ht
 ·exact h.ty.2.1 ht
 ·exact h.ty.2.2.1 ht
theorem fV.DR {w1:World} (h:fV w b pre post t v s) (hk:ep (eO v.uv) w w1):
  eS w1 b (gg pre v s.asks post) t/\ei 124 5 mK w1 0 v.uf (s.ez.zip v.us)/\ic w1 s.ez v.us:=by
 refine⟨h.jE.keeps hk (h.Cg h.eu (.inl rfl)),h.ez.keeps hk (fun g hg=>ei.ne h.ez h.eu (by decide) g hg),h.rows.to (fun f u hu hf=>?_)⟩;exact hf.keeps hk (fun g hg h2=>by
  rcases hg with hg | hg
  ·exact h.KV u hu g h2 hg
  ·exact ei.ne hf.2 h.eu (by decide) g hg h2)
theorem fV.si {w1:World} {uv':Value} {SR:List fi} (h:fV w b pre post t v s) (ho:ei 52 2 fR w1 0 uv' SR) (hk:ep (eO v.uv) w w1) (hs:eQ w v.uv uv'):
  fV (w1.setCell ⟨b,pre.length,none⟩ uv') b pre post t {v with uv:=uv'} {s with eu:=SR}/\kt v {v with uv:=uv'} b w (w1.setCell ⟨b,pre.length,none⟩ uv'):=by
 obtain⟨h1,h2,h3⟩:=fV.DR h hk;have Np:=eE w1 b pre.length uv';have hb:∀{α:Type} {t':TypeId} {k:Nat} {enc:α ->List Value} {B:Nat} {u:Value} {l:List α},ei t' k enc w1 B u l ->(t'=52\/t'=124\/t'=144) ->∀g,eO u g ->¬ g=b:=by
  intro α t' k enc B u l ho ht g hg he;subst he;obtain⟨cur,hb⟩:=ho.has hg;have:=hb.uniq h1;subst this;rcases ht with ht | ht | ht
  ·exact h.ty.1 ht
  ·exact h.ty.2.1 ht
  ·exact h.ty.2.2.1 ht
 refine⟨⟨?_,ho.keeps Np (hb ho (.inl rfl)),h2.keeps Np (hb h2 (.inr (.inl rfl))),h3.to (fun f u hu hf=>hf.keeps Np (fun g hg=>?_)),?_,h.apart,h.ty⟩,?_,?_⟩
 ·have:=h1.set pre.length uv'
  rw [JC]at this;exact this
 ·rcases hg with hg | hg
  ·exact hb hf.1 (.inl rfl) g hg
  ·exact hb hf.2 (.inr (.inr rfl)) g hg
 ·intro u hu g hg h4
  rcases hs g hg with h5 | h5
  ·exact h.KV u hu g h5 h4
  ·obtain⟨f,hf⟩:=h.rows.mem hu
   have:=(eM hf.1 h4).2;omega
 ·exact(hk.mono (fun g hg=> .inr (.inl hg))).trans Np (fun g hg=> .inl (.inl hg))
 ·intro g hg
  rcases hg with hg | hg | hg | hg
  ·exact .inl (.inl hg)
  ·exact(hs g hg).imp (fun h=> .inr (.inl h)) id
  ·exact .inl (.inr (.inr (.inl hg)))
  ·exact .inl (.inr (.inr (.inr hg)))
theorem fV.top {lo:List fg} {f:fg} (h:fV w b pre post t v s) (hs:s.ez=lo++[f]):
  ∃us u g cap,v.us=us++[u]/\us.length=lo.length/\v.uf= .slice (some ⟨g,0,none⟩) (lo.length+1) cap/\lo.length+1 <=cap/\cap <=9223372036854775807/\g < w.heap.size/\
   (w.cell? ⟨g,lo.length*5,none⟩=some (.int .i64 f.fn)/\w.cell? ⟨g,lo.length*5+1,none⟩=some (.int .i64 f.pc)/\w.cell? ⟨g,lo.length*5+2,none⟩=some u.1/\w.cell? ⟨g,lo.length*5+3,none⟩=some (.int .i64 f.base)/\w.cell? ⟨g,lo.length*5+4,none⟩=some u.2)/\
   ic w lo us/\nR w f u/\∀i,w.frozen? ⟨g,i,none⟩=false:=by
 have hr:=h.rows;rw [hs]at hr;obtain⟨us,u,hu,h1,h2⟩:=hr.open;have hlen:=h1.len;have hf:=h.ez;rw [hs,hu,dq hlen.symm]at hf;obtain⟨g,cap,cur,he,-,hg,hb,NX,hm⟩:=hf.open (by simp);have hl:(lo.zip us++[f].zip [u]).length=lo.length+1:=by simp [hlen]
 rw [hl]at he NX;rw [he]at hf;have hx:(lo.zip us++[f].zip [u])[lo.length]?=some (f,u):=by
  rw [bo (by simp [hlen])];simp [hlen]
 exact⟨us,u,g,cap,hu,hlen,he,NX,by simpa [maxLen] using hm,hg,⟨by have:=ei.cell iP hf (j:=0) hx rfl;rwa [aJ]at this,ei.cell iP hf (j:=1) hx rfl,ei.cell iP hf (j:=2) hx rfl,ei.cell iP hf (j:=3) hx rfl,ei.cell iP hf (j:=4) hx rfl⟩,h1,h2,ei.free hf⟩
theorem KC {uv:Value} {eu:List fi} {asks:Int} {lo:List fg} {f f':fg} {us:List (Value × Value)} {u u':Value × Value} {g cap:Nat} {x:Value} {j:Nat}
  (hb:eS w b (gg pre ⟨uv, .slice (some ⟨g,0,none⟩) (lo.length+1) cap,us++[u']⟩ asks post) t) (hv:ei 52 2 fR w 0 uv eu)
  (Nm:ei 124 5 mK w 0 (.slice (some ⟨g,0,none⟩) (lo.length+1) cap) ((lo++[f]).zip (us++[u]))) (TO:ic w lo us) (hr:nR w f' u')
  (hj:j < 5) (he:mK (f',u')=(mK (f,u)).set j x) (hfar:∀u2∈us++[u'],∀g,eO uv g ->¬ eO u2.1 g) (hap:Aw (us++[u'])) (ht:t≠52/\t≠124/\t≠144/\t≠133):
  fV (w.setCell ⟨g,lo.length*5+j,none⟩ x) b pre post t ⟨uv, .slice (some ⟨g,0,none⟩) (lo.length+1) cap,us++[u']⟩ ⟨eu,lo++[f'],asks⟩:=by
 have hlen:=TO.len;have hfr2:=Nm;rw [dq hlen.symm]at Nm;have hx:(lo.zip us++[f].zip [u])[lo.length]?=some (f,u):=by
  rw [bo (by simp [hlen])];simp [hlen]
 have Q8:=ei.set iP Nm hx hj he;have e4:(lo.zip us++[f].zip [u]).set lo.length (f',u')=lo.zip us++[f'].zip [u']:=by
  rw [List.set_append_right _ _ (by simp [hlen])];simp [hlen]
 rw [e4, <- dq hlen.symm]at Q8;have Np:=eE w g (lo.length*5+j) x;have hg:eO (.slice (some ⟨g,0,none⟩) (lo.length+1) cap) g:=by simp [eO,Value.ownBlock]
 refine⟨hb.keeps Np (fun e=>?_),hv.keeps Np (fun i hi e=>ei.ne hv Nm (by decide) i hi (by rw [e];exact hg)),Q8,
  (ic.snoc TO hr).to (fun f2 u2 _ h3=>h3.keeps Np (fun i hi e=>?_)),hfar,hap,ht⟩
 ·obtain⟨cur,hc⟩:=hfr2.has hg
  rw [<- e]at hc;exact ht.2.1 (hb.uniq hc)
 ·rcases hi with hi | hi
  ·exact ei.ne h3.1 Nm (by decide) i hi (by rw [e];exact hg)
  ·exact ei.ne h3.2 Nm (by decide) i hi (by rw [e];exact hg)
theorem fV.IX {uv:Value} {eu:List fi} {asks:Int} {lo:List fg} {f:fg} (f':fg) {us:List (Value × Value)} {u:Value × Value} {g cap:Nat} {x:Value} (j:Nat) (h:fV w b pre post t ⟨uv, .slice (some ⟨g,0,none⟩) (lo.length+1) cap,us++[u]⟩ ⟨eu,lo++[f],asks⟩)
  (hj:j < 5) (he:mK (f',u)=(mK (f,u)).set j x) (h1:f'.locals=f.locals) (h2:f'.labels=f.labels):
  fV (w.setCell ⟨g,lo.length*5+j,none⟩ x) b pre post t ⟨uv, .slice (some ⟨g,0,none⟩) (lo.length+1) cap,us++[u]⟩ ⟨eu,lo++[f'],asks⟩/\
   kt ⟨uv, .slice (some ⟨g,0,none⟩) (lo.length+1) cap,us++[u]⟩ ⟨uv, .slice (some ⟨g,0,none⟩) (lo.length+1) cap,us++[u]⟩ b w (w.setCell ⟨g,lo.length*5+j,none⟩ x):=by
 obtain⟨us2,u2,e2,h3,h4⟩:=h.rows.open;obtain⟨rfl,e3⟩:=List.append_inj' e2 rfl;injection e3 with e3;subst e3;exact⟨KC h.jE h.eu h.ez h3 (by unfold nR;rw [h1,h2];exact h4) hj he h.KV h.apart h.ty,
  (eE w g _ x).mono (fun i hi=>by subst hi;exact .inr (.inr (.inl (by simp [eO,Value.ownBlock])))),fun i hi=> .inl hi⟩
theorem fV.DJ {w1:World} (h:fV w b pre post t v s) (hk:ep (eO v.uf) w w1):
  eS w1 b (gg pre v s.asks post) t/\ei 52 2 fR w1 0 v.uv s.eu/\ic w1 s.ez v.us:=by
 refine⟨h.jE.keeps hk (h.Cg h.ez (.inr (.inl rfl))),h.eu.keeps hk (fun g hg=>ei.ne h.eu h.ez (by decide) g hg),h.rows.to (fun f u hu hf=>?_)⟩;exact hf.keeps hk (fun g hg h2=>by
  rcases hg with hg | hg
  ·exact ei.ne hf.1 h.ez (by decide) g hg h2
  ·exact ei.ne hf.2 h.ez (by decide) g hg h2)
theorem zd {w1:World} {v':qC} {s':fP} (k:Nat) (x:Value) (hb:eS w1 b (gg pre v s.asks post) t) (he:(gg pre v s.asks post).setIfInBounds k x=gg pre v' s'.asks post)
  (hv:ei 52 2 fR w1 0 v'.uv s'.eu) (hf:ei 124 5 mK w1 0 v'.uf (s'.ez.zip v'.us)) (hr:ic w1 s'.ez v'.us)
  (hfar:∀u∈v'.us,∀g,eO v'.uv g ->¬ eO u.1 g) (hap:Aw v'.us) (ht:t≠52/\t≠124/\t≠144/\t≠133):
  fV (w1.setCell ⟨b,k,none⟩ x) b pre post t v' s':=by
 have Np:=eE w1 b k x;have hn:∀{α:Type} {t':TypeId} {k:Nat} {enc:α ->List Value} {B:Nat} {u:Value} {l:List α},ei t' k enc w1 B u l ->(t'=52\/t'=124\/t'=144) ->∀g,eO u g ->¬ g=b:=by
  intro α t' k enc B u l ho hte g hg e;subst e;obtain⟨cur,hc⟩:=ho.has hg;have:=hc.uniq hb;subst this;rcases hte with hte | hte | hte
  ·exact ht.1 hte
  ·exact ht.2.1 hte
  ·exact ht.2.2.1 hte
 refine⟨?_,hv.keeps Np (hn hv (.inl rfl)),hf.keeps Np (hn hf (.inr (.inl rfl))),hr.to (fun f u _ h3=>h3.keeps Np (fun g hg=>?_)),hfar,hap,ht⟩
 ·have:=hb.set k x
  rw [he]at this;exact this
 ·rcases hg with hg | hg
  ·exact hn h3.1 (.inl rfl) g hg
  ·exact hn h3.2 (.inr (.inr rfl)) g hg
theorem fV.Gy {uv:Value} {eu:List fi} {asks:Int} {lo:List fg} {f:fg} {us:List (Value × Value)} {u:Value × Value} {g cap:Nat} (h:fV w b pre post t ⟨uv, .slice (some ⟨g,0,none⟩) (lo.length+1) cap,us++[u]⟩ ⟨eu,lo++[f],asks⟩):
  fV (w.setCell ⟨b,pre.length+1,none⟩ (.slice (some ⟨g,0,none⟩) lo.length cap)) b pre post t ⟨uv, .slice (some ⟨g,0,none⟩) lo.length cap,us⟩ ⟨eu,lo,asks⟩/\
   kt ⟨uv, .slice (some ⟨g,0,none⟩) (lo.length+1) cap,us++[u]⟩ ⟨uv, .slice (some ⟨g,0,none⟩) lo.length cap,us⟩ b w (w.setCell ⟨b,pre.length+1,none⟩ (.slice (some ⟨g,0,none⟩) lo.length cap)):=by
 obtain⟨us2,u2,e2,h3,h4⟩:=h.rows.open;obtain⟨rfl,e3⟩:=List.append_inj' e2 rfl;injection e3 with e3;subst e3;have hlen:=h3.len;have Nm:=h.ez;simp only at Nm;rw [dq hlen.symm]at Nm;have hT:=ei.take iP Nm lo.length (by simp [hlen]);rw [dt (by simp [hlen])]at hT;have hap:=h.apart;rw [Aw,db]at hap;refine⟨zd _ _ h.jE (by rw [D8];rfl) h.eu hT h3 (fun u2 Pq=>h.KV u2 (by simp [Pq])) hap.1 h.ty,(eE w b _ _).mono (fun i hi=> .inl hi),fun i hi=> .inl ?_⟩;rcases hi with hi | hi | hi | ⟨u2,Pq,hi⟩
 ·exact .inl hi
 ·exact .inr (.inl hi)
 ·exact .inr (.inr (.inl ((ei.same i).1 hi)))
 ·exact .inr (.inr (.inr ⟨u2,by simp [Pq],hi⟩))
theorem fV.FE {w1:World} {f:fg} {u:Value × Value} {uf':Value} (h:fV w b pre post t v s) (hr:nR w f u) (hn:∀g,eO u.1 g\/eO u.2 g ->¬ v.own b g) (hnk:∀g,eO u.1 g\/eO u.2 g ->¬ eO v.uf g) (ho:ei 124 5 mK w1 0 uf' (s.ez.zip v.us++[(f,u)])) (hk:ep (eO v.uf) w w1) (hs:eQ w v.uf uf'):
  fV (w1.setCell ⟨b,pre.length+1,none⟩ uf') b pre post t ⟨v.uv,uf',v.us++[u]⟩ ⟨s.eu,s.ez++[f],s.asks⟩/\
   ep (v.own b) w (w1.setCell ⟨b,pre.length+1,none⟩ uf')/\∀g,(⟨v.uv,uf',v.us++[u]⟩:qC).own b g ->v.own b g\/(eO u.1 g\/eO u.2 g)\/w.heap.size <=g:=by
 obtain⟨h1,h2,h3⟩:=h.DJ hk;have hlen:=h.rows.len;have e1:s.ez.zip v.us++[(f,u)]=(s.ez++[f]).zip (v.us++[u]):=by rw [dq hlen.symm];rfl
 rw [e1]at ho;refine⟨zd (s:=s) _ _ h1 (by rw [D8];rfl) h2 ho (ic.snoc h3 (hr.keeps hk hnk)) ?_ ?_ h.ty,?_,?_⟩
 ·intro u2 Pq g hg
  rcases bU.1 Pq with h6 | h6
  ·exact h.KV u2 h6 g hg
  ·rw [aV.1 h6]
   exact fun h7=>hn g (.inl h7) (.inr (.inl hg))
 ·rw [Aw,db]
  refine⟨h.apart,by simp,fun a ha c hc=>?_⟩;rw [aV.1 hc];exact⟨fun g hg h7=>hn g (.inl h7) (.inr (.inr (.inr ⟨a,ha, .inl hg⟩))),fun g hg h7=>hn g (.inr h7) (.inr (.inr (.inr ⟨a,ha, .inr hg⟩)))⟩
 ·refine(hk.mono (fun i hi=> .inr (.inr (.inl hi)))).trans (eE w1 b _ uf') (fun i hi=> .inl (.inl hi))
 ·intro g hg
  rcases hg with hg | hg | hg | ⟨u2,Pq,hg⟩
  ·exact .inl (.inl hg)
  ·exact .inl (.inr (.inl hg))
  ·exact(hs g hg).elim (fun h=> .inl (.inr (.inr (.inl h)))) (fun h=> .inr (.inr h))
  ·rcases bU.1 Pq with h6 | h6
   ·exact .inl (.inr (.inr (.inr ⟨u2,h6,hg⟩)))
   ·rw [aV.1 h6]at hg
    exact .inr (.inl hg)
theorem fV.zq (h:fV w b pre post t v s) (n:Int):
  fV (w.setCell ⟨b,pre.length+2,none⟩ (.int .i64 n)) b pre post t v {s with asks:=n}/\kt v v b w (w.setCell ⟨b,pre.length+2,none⟩ (.int .i64 n)):=
 ⟨zd (s:=s) _ _ h.jE (by rw [Ju]) h.eu h.ez h.rows h.KV h.apart h.ty,(eE w b _ _).mono (fun i hi=> .inl hi),fun i hi=> .inl hi⟩
theorem fV.cells {uv:Value} {eu:List fi} {asks:Int} {lo:List fg} {f:fg} {us:List (Value × Value)} {u:Value × Value} {g cap:Nat} (h:fV w b pre post t ⟨uv, .slice (some ⟨g,0,none⟩) (lo.length+1) cap,us++[u]⟩ ⟨eu,lo++[f],asks⟩):
  (w.cell? ⟨g,lo.length*5,none⟩=some (.int .i64 f.fn)/\w.cell? ⟨g,lo.length*5+1,none⟩=some (.int .i64 f.pc)/\w.cell? ⟨g,lo.length*5+2,none⟩=some u.1/\w.cell? ⟨g,lo.length*5+3,none⟩=some (.int .i64 f.base)/\w.cell? ⟨g,lo.length*5+4,none⟩=some u.2)/\
   nR w f u/\ic w lo us/\(∀i,w.frozen? ⟨g,i,none⟩=false)/\g < w.heap.size/\lo.length+1 <=cap/\cap <=9223372036854775807:=by
 obtain⟨us2,u2,g2,Nr,e1,_,e2,h3,h4,h5,h6,h7,h8,h9⟩:=h.top rfl;obtain⟨rfl,e3⟩:=List.append_inj' e1 rfl;injection e3 with e3;injection e2 with e4 _ e5;injection e4 with e4;injection e4 with e4;subst e3 e4 e5;exact⟨h6,h8,h7,h9,h5,h3,h4⟩
end
end
section
open Go.RowKit Go.Maps
def Lu (n:Int):DataW Unit:= .lit (.int .i64 n)
def J4 (b:kG):DataW Unit:= .agg [Lu b.pos,Lu b.Mz,Lu b.fin]
def DF:Value ->Option (DataW Unit × List MemPlace)
 | .agg cs=>match cs.toList with
  | [.int .i64 a, .int .i64 b, .int .i64 c]=>some (J4 ⟨a,b,c⟩,[])
  | _=>none
 | _=>none
def AI (D:DataW Unit) (b:kG):DataW Unit:=D.put (.int .i64 b.pos) (J4 b)
def BC (l:List kG):DataW Unit:=l.foldl AI (.map [])
theorem De (l:List kG) (b:kG):BC (l++[b])=(BC l).put (.int .i64 b.pos) (J4 b):=by simp [BC,AI,List.foldl_append]
def gr (w:World) (j:Nat) (l:List kG):Prop:=∃n,n <=l.length/\w.ownsMap prog 3 DF j n (BC l)
theorem gr.lt {w:World} {j:Nat} {l:List kG} (h:gr w j l):j < w.heap.size:=by
 obtain⟨n,-,h⟩:=h;exact h.lt
theorem gr.keeps {w w':World} {j:Nat} {l:List kG} {P:Nat ->Prop} (h:gr w j l) (hk:ep P w w') (hj:¬ P j):gr w' j l:=by
 have Nu:=h.lt;obtain⟨n,hn,es,clock,hb,r⟩:=h;exact⟨n,hn,es,clock,(hk.block j Nu hj).trans hb,r⟩
theorem gr.below {w w':World} {j:Nat} {l:List kG} (h:gr w j l) (hb:Below w.heap.size w w'):gr w' j l:=h.keeps (P:=fun _=>False) (ep.et hb) (fun h=>h)
theorem Ls:prog.underlying 112=some (.map 3 114):=by kernel_rfl
theorem KU:prog.underlying 3=some (.int .i64):=by kernel_rfl
end
theorem Cw (K:Nat) (hK:K <=5000) (n:Int) (hn:n=(K:Int)) (w:World):(Instr.makeSlice 104 (.int .i64 n) (.int .i64 n)).run prog w=
  .ok (.slice (some ⟨w.heap.size,0,none⟩) K K) (w.alloc (.cells (List.replicate K (.int .u8 0)).toArray 5)):=by
 subst hn;obtain⟨i,hi,Po,Oi,O1⟩:=bS pn;have h:=run_make (P:=prog) w 104 5 i _ (by kernel_rfl) hi Po .i64 .i64 (K:Int) (K:Int) (by omega) (Int.le_refl _) (by rw [O1];omega) (by omega);rw [Oi,cG,aW]at h;have e:madeCells (Value.cells (.int .u8 0)) K=(List.replicate K (.int .u8 0)).toArray:=by
  apply Array.ext
  ·simp [madeCells]
  ·intro i h1 h2
   have:i %1=0:=Nat.mod_one i;simp [madeCells,Value.cells,this]
 rw [e]at h;exact h
structure Ad where
 bytes:List UInt8
 fD:Int
 DH:List Int
def IG (w:World) (B X:Nat) (e:Ad):Prop:=∃v v',eS w X #[v, .int .i64 e.fD,v'] 159/\eC w B v e.bytes/\ei 3 1 fk w B v' e.DH
def py (mx:Int):Int:=if mx= -1 then 16 else max (min 16 mx) (-1)
def ju (l:gl):Option Ad:=if l.has=false\/l.min < 0\/16 < l.min then none else some ⟨List.replicate (l.min.toNat*256) 0,py l.max,[]⟩
def Eu (l:gl) (w:World) (e:Ending) (w':World):Prop:=
 Below w.heap.size w w'/\((ju l=none/\e= .returned (.pointer none))\/∃x X,ju l=some x/\e= .returned (.pointer (some ⟨X,0,none⟩))/\IG w' w.heap.size X x/\w.heap.size <=X)
theorem Bo {w:World} {g K B:Nat} (h:eS w g (List.replicate K (.int .u8 0)).toArray 5) (hB:B <=g) (hK:K <=100000):eC w B (.slice (some ⟨g,0,none⟩) K K) (List.replicate K 0):=by
 refine⟨by simp, .inr ⟨g,K,_,by simp,hB,h,by simp,by simp [maxLen];omega,by simp,?_⟩⟩;simp [List.map_replicate,bv]
theorem rG (w:World) (n:Nat) (hn:n <=16) (o:Obj) (m:Int):
  IG (((w.alloc o).alloc (.cells (Array.replicate (n*256) (.int .u8 0)) 5)).alloc (.cells #[.slice (some ⟨w.heap.size+1,0,none⟩) (n*256) (n*256), .int .i64 m, .slice none 0 0] 159)).drew w.heap.size (w.heap.size+2) ⟨List.replicate (n*256) 0,m,[]⟩/\
  Below w.heap.size w (((w.alloc o).alloc (.cells (Array.replicate (n*256) (.int .u8 0)) 5)).alloc (.cells #[.slice (some ⟨w.heap.size+1,0,none⟩) (n*256) (n*256), .int .i64 m, .slice none 0 0] 159)).drew:=by
 rw [<- List.toArray_replicate];have Nx:=(an w.heap.size w).alloc (ag _) o;have No:=Nx.alloc (by rw [aC];omega) (.cells (List.replicate (n*256) (.int .u8 0)).toArray 5);have NP:=No.alloc (by rw [aC,aC];omega) (.cells #[.slice (some ⟨w.heap.size+1,0,none⟩) (n*256) (n*256), .int .i64 m, .slice none 0 0] 159);have hx:=eS.new ((w.alloc o).alloc (.cells (List.replicate (n*256) (.int .u8 0)).toArray 5)) #[.slice (some ⟨w.heap.size+1,0,none⟩) (n*256) (n*256), .int .i64 m, .slice none 0 0] 159;have hy:=(eS.new (w.alloc o) (List.replicate (n*256) (.int .u8 0)).toArray 5).alloc (.cells #[.slice (some ⟨w.heap.size+1,0,none⟩) (n*256) (n*256), .int .i64 m, .slice none 0 0] 159);simp only [aC]at hx hy;exact⟨⟨_,_,hx.drew,Bo hy.drew (by omega) (by omega),ei.nil _ _⟩,NP.drew⟩
theorem Cj (l:gl) (w:World):Calls prog 36 #[.agg #[.bool l.has, .int .i64 l.min, .int .i64 l.max]] w (Eu l w):=by
 obtain⟨has,mn,mx⟩:=l;have HB:=V ((an w.heap.size w).alloc (ag _) (.cells #[.bool has, .int .i64 mn, .int .i64 mx] 28));cases has
 ·have HM:=V (show ju ⟨false,mn,mx⟩=none by unfold ju;simp)
  go_enter func36,ntmps36;go_wp2;go_ret;exact⟨HB.out, .inl ⟨HM.out,rfl⟩⟩
 by_cases q1:mn < 0
 ·have f1:decide (mn < 0)=true:=ay q1
  have HM:=V (show ju ⟨true,mn,mx⟩=none by unfold ju;rw [if_pos (.inr (.inl q1))]);clear q1;go_enter func36,ntmps36;go_wp2;go_ret;exact⟨HB.out, .inl ⟨HM.out,rfl⟩⟩
 obtain⟨n,rfl⟩:∃n:Nat,mn=n:=⟨mn.toNat,by omega⟩;have f1:decide ((n:Int) < 0)=false:=aw q1;by_cases q2:16 < n
 ·have f2:decide ((16:Int) < (n:Int))=true:=ay (by omega)
  have f3:decide (16 < n)=true:=ay q2;have HM:=V (show ju ⟨true,n,mx⟩=none by unfold ju;rw [if_pos (.inr (.inr (by show(16:Int) < n;omega)))]);clear q1 q2;go_enter func36,ntmps36;go_wp2;go_ret;exact⟨HB.out, .inl ⟨HM.out,rfl⟩⟩
 have f2:decide ((16:Int) < (n:Int))=false:=aw (by omega);have f3:decide (16 < n)=false:=aw q2;have HM:=V (show ju ⟨true,n,mx⟩=some ⟨List.replicate (n*256) 0,py mx,[]⟩by
  unfold ju;rw [az (by simp;omega),cG])
 have hmk:=fun w=>Cw (n*256) (by omega) ((n:Int)*256) (by omega) w;have hn:n <=16:=by omega
 clear q1 q2;have Nx:=HB.out.alloc (by rw [aC];omega) (.cells (List.replicate (n*256) (.int .u8 0)).toArray 5);have HS:=V (Nx.alloc (by rw [aC,aC];omega) (.cells #[.slice (some ⟨w.heap.size+1,0,none⟩) (n*256) (n*256), .int .i64 16, .slice none 0 0] 159));have hx:=eS.new ((w.alloc (.cells #[.bool true, .int .i64 n, .int .i64 mx] 28)).alloc (.cells (List.replicate (n*256) (.int .u8 0)).toArray 5)) #[.slice (some ⟨w.heap.size+1,0,none⟩) (n*256) (n*256), .int .i64 16, .slice none 0 0] 159;have hy:=(eS.new (w.alloc (.cells #[.bool true, .int .i64 n, .int .i64 mx] 28)) (List.replicate (n*256) (.int .u8 0)).toArray 5).alloc (.cells #[.slice (some ⟨w.heap.size+1,0,none⟩) (n*256) (n*256), .int .i64 16, .slice none 0 0] 159);simp only [aC]at hx hy;have HX:=V hx;have HY:=V (Bo hy (B:=w.heap.size) (by omega) (by omega));have HL0:=V (((eS.new w #[.bool true, .int .i64 n, .int .i64 mx] 28).alloc (.cells (List.replicate (n*256) (.int .u8 0)).toArray 5)).alloc (.cells #[.slice (some ⟨w.heap.size+1,0,none⟩) (n*256) (n*256), .int .i64 16, .slice none 0 0] 159));clear Nx hx hy;by_cases q:mx= -1
 ·have f4:=kT q
  have HMO:=V (show py mx=16 by unfold py;rw [if_pos q]);clear q;go_enter func36,ntmps36;go_wp2;go_ret;exact⟨HS.out, .inr ⟨_,w.heap.size+2,HM.out,rfl,by rw [HMO.out];exact⟨_,_,HX.out,HY.out,ei.nil _ _⟩,by omega⟩⟩
 have f4:=fB q;obtain⟨r1,RQ⟩:∃r1:Int,min 16 mx=r1:=⟨_,rfl⟩;have HMO:=V (show py mx=max (min 16 mx) (-1)by unfold py;rw [if_neg q]);have x1:World.cell? _ ⟨w.heap.size+2,1,none⟩=some (.int .i64 16):=HX.out.drew.cell 1;have HL:=V (HL0.out.drew);have x2:World.cell? _ ⟨w.heap.size,2,none⟩=some (.int .i64 mx):=HL.out.cell 2;replace HX:=V HX.out.drew;have HY:=V (show eC _ w.heap.size (.slice (some ⟨w.heap.size+1,0,none⟩) (n*256) (n*256)) (List.replicate (n*256) 0)from eC.below HY.out (an _ _).drew);replace HS:=V HS.out.drew;clear q RQ;go_enter func36,ntmps36;go_wp2_with fail;refine eY (fun w'=>w'.cell? ⟨w.heap.size+2,1,none⟩=some (.int .i64 16)/\w'.cell? ⟨w.heap.size,2,none⟩=some (.int .i64 mx)) 11 (up 0 7 ((7,false)::(8,false)::(9,true)::(10,true)::[])) (by kernel_rfl) (by kernel_rfl) ⟨x1,x2⟩ ?_;iterate 7 (first | (apply sk rfl rfl;simp only [pt]) | (apply eo rfl rfl rfl;·(rintro w' ⟨t0,t1⟩;go_wp2;exact⟨rfl,rfl,rfl⟩)))
 refine ew rfl rfl ?_;by_cases hq:16 <=mx
 ·have hq':decide ((16:Int) <=mx)=true:=ay hq
  replace HMO:=V (show py mx=16 by rw [HMO.out];omega);go_wp2_with fail;refine⟨⟨x1,x2⟩,?_⟩;refine ew rfl rfl ?_;go_wp2_with fail;refine⟨⟨x1,x2⟩,?_⟩;iterate 2 (first | (apply sk rfl rfl;simp only [pt]) | (apply eo rfl rfl rfl;·(rintro w' ⟨t0,t1⟩;go_wp2;exact⟨rfl,rfl,rfl⟩)))
  refine fJ rfl rfl ?_;have z1:=HX.out.free 1;go_wp2;refine⟨trivial,?_⟩;refine aA ?_;go_wp2;go_ret;have HE:=rG w n hn (.cells #[.bool true, .int .i64 n, .int .i64 mx] 28) 16;exact⟨HE.2, .inr ⟨_,w.heap.size+2,HM.out,rfl,by rw [HMO.out];exact HE.1,by omega⟩⟩
 ·have hq':decide ((16:Int) <=mx)=false:=aw hq
  by_cases hr:mx < -1
  ·have hr':decide (mx < -1)=true:=ay hr
   replace HMO:=V (show py mx=(-1)by rw [HMO.out];omega);go_wp2_with fail;refine⟨⟨x1,x2⟩,?_⟩;refine ew rfl rfl ?_;go_wp2_with fail;refine⟨⟨x1,x2⟩,?_⟩;iterate 2 (first | (apply sk rfl rfl;simp only [pt]) | (apply eo rfl rfl rfl;·(rintro w' ⟨t0,t1⟩;go_wp2;exact⟨rfl,rfl,rfl⟩)))
   refine fJ rfl rfl ?_;have z1:=HX.out.free 1;go_wp2;refine⟨trivial,?_⟩;refine aA ?_;go_wp2;go_ret;have HE:=rG w n hn (.cells #[.bool true, .int .i64 n, .int .i64 mx] 28) (-1);exact⟨HE.2, .inr ⟨_,w.heap.size+2,HM.out,rfl,by rw [HMO.out];exact HE.1,by omega⟩⟩
  ·have hr':decide (mx < -1)=false:=aw hr
   replace HMO:=V (show py mx=mx by rw [HMO.out];omega);go_wp2_with fail;refine⟨⟨x1,x2⟩,?_⟩;refine ew rfl rfl ?_;go_wp2_with fail;refine⟨⟨x1,x2⟩,?_⟩;iterate 2 (first | (apply sk rfl rfl;simp only [pt]) | (apply eo rfl rfl rfl;·(rintro w' ⟨t0,t1⟩;go_wp2;exact⟨rfl,rfl,rfl⟩)))
   refine fJ rfl rfl ?_;have z1:=HX.out.free 1;go_wp2;refine⟨trivial,?_⟩;refine aA ?_;go_wp2;go_ret;have HE:=rG w n hn (.cells #[.bool true, .int .i64 n, .int .i64 mx] 28) mx;exact⟨HE.2, .inr ⟨_,w.heap.size+2,HM.out,rfl,by rw [HMO.out];exact HE.1,by omega⟩⟩
theorem eC.gF {w:World} {B X:Nat} {v:Value} {l:List UInt8} {xs:Array Value} {t':TypeId} (h:eC w B v l) (hb:eS w X xs t') (Ox:5≠t'):∀i,eO v i ->¬ i=X:=by
 intro i hi he;subst he;obtain⟨_,⟨hv,_⟩ | ⟨g,cap,cur,hv,_,hg,_⟩⟩:=h
 ·rw [hv]at hi;simp [eO,Value.ownBlock]at hi
 ·rw [hv]at hi
  simp [eO,Value.ownBlock]at hi;subst hi;have:=hb.symm.trans hg;injection this with this;injection this with e1 e2;exact Ox e2.symm
def LP (w:World) (B:Nat) (p:Value) (e:Option Ad):Prop:=(e=none/\p= .pointer none)\/∃x X,e=some x/\p= .pointer (some ⟨X,0,none⟩)/\IG w B X x/\B <=X
theorem BB {α β:Type} {k:Nat} {enc:α × β ->List Value} {inner:World ->α ->β ->Prop} {w:World} {v:Value} {l:List α} (h:eD k enc inner w v l) {x:α} (hx:x∈l):∃u,inner w x u:=by
 obtain⟨i,hi⟩:=List.getElem?_of_mem hx;obtain⟨a,cap,rfl,-,-⟩:=eD.slice h;obtain⟨b,off,u,-,-,-,hu⟩:=eD.get h hi;exact⟨u,hu⟩
theorem eG.Lc {w:World} {u:eT} {m:eI} (h:eG w u m):∀x∈m.eF,∀y∈x.body,y.ok:=fun x hx y hy=>by
 obtain⟨u1,h1⟩:=BB h.2.2.2.2.2.2.1 hx;obtain⟨u2,h2⟩:=BB h1.1.2 hy;exact h2.2
theorem BV {w:World} {u:eT} {m:eI} (h:eG w u m) (hm:m.may):rE (fL m)=some m:=by
 unfold rE;rw [BQ hm.1.Kg h.2.2.2.2.2.2.2.2 h.Lc hm.2];simp [hm]
def Gc (m:eI) (w:World) (e:Ending) (w':World):Prop:=∃u,e= .returned (.agg (u.cells m))/\eG (mask (kD w.heap.size) w') u m/\Below w.heap.size w w'
theorem CU (m:eI) (u:eT) (w:World) (hm:eG w u m) (hs:m.words) (hy:m.may):Calls prog 35 #[.agg (u.cells m)] w (Gc m w):=by
 have HI:=V hm;have Tk:=V hs;have HY:=V hy;have HDEC:=V (BV hm hy);obtain⟨a0,c0,a1,c1,a2,c2,a3,c3,a4,c4,a5,c5,a6,c6,a7,c7,rfl⟩:=eG.open hm;clear hm hs hy;simp only [eT.cells];have NG:=(an w.heap.size w).alloc (ag _) (.cells #[.slice a0 m.types.length c0, .slice a1 m.imports.length c1, .slice a2 m.funcs.length c2, .bool m.table.has, .int .i64 m.table.min, .int .i64 m.table.max, .bool m.mem.has, .int .i64 m.mem.min, .int .i64 m.mem.max, .slice a3 m.globals.length c3, .slice a4 m.ey.length c4, .slice a5 m.elems.length c5, .slice a6 m.eF.length c6, .slice a7 m.eP.length c7] 35);have HS:=V (NG.alloc (by rw [aC];omega) (.cells (u0.cells m0) 35));have Pd:=eS.new (w.alloc (.cells #[.slice a0 m.types.length c0, .slice a1 m.imports.length c1, .slice a2 m.funcs.length c2, .bool m.table.has, .int .i64 m.table.min, .int .i64 m.table.max, .bool m.mem.has, .int .i64 m.mem.min, .int .i64 m.mem.max, .slice a3 m.globals.length c3, .slice a4 m.ey.length c4, .slice a5 m.elems.length c5, .slice a6 m.eF.length c6, .slice a7 m.eP.length c7] 35)) (u0.cells m0) 35;rw [aC]at Pd;have HX:=V Pd;simp only [eT.cells,u0,m0]at HX HS;clear NG Pd;go_enter func35,ntmps35;go_wp2_with fail;obtain⟨wA,RO⟩:∃wA,wA=(w.alloc (.cells #[.slice a0 m.types.length c0, .slice a1 m.imports.length c1, .slice a2 m.funcs.length c2, .bool m.table.has, .int .i64 m.table.min, .int .i64 m.table.max, .bool m.mem.has, .int .i64 m.mem.min, .int .i64 m.mem.max, .slice a3 m.globals.length c3, .slice a4 m.ey.length c4, .slice a5 m.elems.length c5, .slice a6 m.eF.length c6, .slice a7 m.eP.length c7] 35)).alloc (.cells #[.slice none 0 0, .slice none 0 0, .slice none 0 0, .bool false, .int .i64 0, .int .i64 0, .bool false, .int .i64 0, .int .i64 0, .slice none 0 0, .slice none 0 0, .slice none 0 0, .slice none 0 0, .slice none 0 0] 35):=⟨_,rfl⟩;rw [<- RO]at HS HX⊢;clear RO;refine(pB m ⟨.slice a0 m.types.length c0, .slice a1 m.imports.length c1, .slice a2 m.funcs.length c2, .slice a3 m.globals.length c3, .slice a4 m.ey.length c4, .slice a5 m.elems.length c5, .slice a6 m.eF.length c6, .slice a7 m.eP.length c7⟩ wA (eG.below HI.out HS.out) Tk.out).mono ?_;rintro e w2 ⟨v,rfl,⟨OD,-⟩ | ⟨-,hv⟩,hb⟩
 ·exact absurd HY.out OD
 replace HX:=V (HX.out.below hb HX.out.lt);replace HS:=V (HS.out.trans (hb.mono HS.out.size));have HV:=V hv;clear hb hv;go_wp2_with fail;refine(rS v (fL m) w2 HV.out (by have:=HY.out.2;omega)).mono ?_;rintro e w3 ⟨hb,⟨u,m',hd,rfl,hu,-⟩ | ⟨hd,-⟩⟩;rotate_left
 ·rw [HDEC.out]at hd
  cases hd
 rw [HDEC.out]at hd;injection hd with hd;subst hd;have hlow:w.heap.size+1 < w2.heap.size:=HX.out.lt;replace HX:=V (HX.out.below hb HX.out.lt);replace HS:=V (HS.out.trans (hb.mono HS.out.size));have HU:=V hu;clear hb hu HV;obtain⟨b0,k0,b1,k1,b2,k2,b3,k3,b4,k4,b5,k5,b6,k6,b7,k7,rfl⟩:=eG.open HU.out;simp only [eT.cells];have Nx:=(an w3.heap.size w3).alloc (ag _) (.cells #[.slice b0 m.types.length k0, .slice b1 m.imports.length k1, .slice b2 m.funcs.length k2, .bool m.table.has, .int .i64 m.table.min, .int .i64 m.table.max, .bool m.mem.has, .int .i64 m.mem.min, .int .i64 m.mem.max, .slice b3 m.globals.length k3, .slice b4 m.ey.length k4, .slice b5 m.elems.length k5, .slice b6 m.eF.length k6, .slice b7 m.eP.length k7] 35);have HZ:=V (eS.new w3 #[.slice b0 m.types.length k0, .slice b1 m.imports.length k1, .slice b2 m.funcs.length k2, .bool m.table.has, .int .i64 m.table.min, .int .i64 m.table.max, .bool m.mem.has, .int .i64 m.mem.min, .int .i64 m.mem.max, .slice b3 m.globals.length k3, .slice b4 m.ey.length k4, .slice b5 m.elems.length k5, .slice b6 m.eF.length k6, .slice b7 m.eP.length k7] 35);replace HX:=V (HX.out.below Nx HX.out.lt);have HB1:=V Nx;clear Nx;obtain⟨p0,p1,p2,p3,p4,p5,p6,p7,p8,p9,p10,p11,p12,p13⟩:=HX.out.mod;obtain⟨q0,q1,q2,q3,q4,q5,q6,q7,q8,q9,q10,QN,q12,q13⟩:=HX.out.wE;go_wp2_with fail;have hx:=((show eS _ (w.heap.size+1) (u0.cells m0) _ from HX.out).pz ⟨.slice b0 m.types.length k0, .slice b1 m.imports.length k1, .slice b2 m.funcs.length k2, .slice b3 m.globals.length k3, .slice b4 m.ey.length k4, .slice b5 m.elems.length k5, .slice b6 m.eF.length k6, .slice b7 m.eP.length k7⟩ m).mh;have Np:=kY (w3.alloc (.cells (eT.cells ⟨.slice b0 m.types.length k0, .slice b1 m.imports.length k1, .slice b2 m.funcs.length k2, .slice b3 m.globals.length k3, .slice b4 m.ey.length k4, .slice b5 m.elems.length k5, .slice b6 m.eF.length k6, .slice b7 m.eP.length k7⟩ m) 35)) (w.heap.size+1) ⟨.slice b0 m.types.length k0, .slice b1 m.imports.length k1, .slice b2 m.funcs.length k2, .slice b3 m.globals.length k3, .slice b4 m.ey.length k4, .slice b5 m.elems.length k5, .slice b6 m.eF.length k6, .slice b7 m.eP.length k7⟩ m;refine aF (eH rfl _ _ rfl hx) rfl ?_;exact⟨_,rfl,eG.ext (eG.ext HU.out (nV (P:=fun _=>False) (ep.et HB1.out) (fun _ h=>h.elim) (.inl (ag _)))) ((nV Np (fun i hi=> .inl (by omega)) (.inl (ag _))).trans (vA _ (by omega))),(HS.out.trans (HB1.out.mono HS.out.size)).trans (Np.below (by have:=HS.out.size;simp;omega) (fun i hi=>by omega))⟩
structure lg where
 u:eT
 vm:Value
 vs:Value
 vj:Value
 js:List Nat
def Ao (j:Nat):List Value:=[.map (some j)]
theorem IH (j:Nat):(Ao j).length=1:=rfl
theorem Hj (j:Nat):∀u∈Ao j,u.oneCell'=true:=by
 intro u hu;simp only [Ao,bx,bI,cH]at hu;rw [hu];rfl
def uz (iv:lg) (m:eI):Array Value:=
 #[iv.u.types,iv.u.imports,iv.u.funcs, .bool m.table.has, .int .i64 m.table.min, .int .i64 m.table.max, .bool m.mem.has, .int .i64 m.mem.min, .int .i64 m.mem.max,iv.u.globals,iv.u.ey,iv.u.elems,iv.u.eF,iv.u.eP,iv.vm,iv.vs,iv.vj]
structure iM (w:World) (FX:Nat ->Bool) (X:Nat) (iv:lg) (m:eI):Prop where
 jE:eS w X (uz iv m) 102
 fx:FX X=true
 mod:eG (mask (fun k=> !FX k) w) iv.u m
 jumps:ei 112 1 Ao w 0 iv.vj iv.js
 fj:∀g,eO iv.vj g ->FX g=true
 maps:∀(k j:Nat) (c:ij),iv.js[k]?=some j ->m.eF[k]?=some c ->gr w j (o8 c)/\FX j=true
 len:iv.js.length=m.eF.length
 lt:∀g,FX g=true ->g < w.heap.size
theorem iM.keeps {P:Nat ->Prop} {w w':World} {FX:Nat ->Bool} {X:Nat} {iv:lg} {m:eI} (h:iM w FX X iv m) (hk:ep P w w') (hP:∀g,P g ->FX g=false):iM w' FX X iv m:=by
 have hN:∀g,FX g=true ->¬ P g:=fun g hg hp=>by rw [hP g hp]at hg;cases hg
 refine⟨h.jE.keeps hk (hN X h.fx),h.fx,h.mod.ext (iY hk (fun k _ hp=>by simp [hP k hp]) (fun k _ hp=>hp)),h.jumps.keeps hk (fun g hg=>hN g (h.fj g hg)),h.fj,fun k j c hj hc=>?_,h.len,fun g hg=>bp (h.lt g hg) hk.size⟩;obtain⟨h1,h2⟩:=h.maps k j c hj hc;exact⟨h1.keeps hk (hN j h2),h2⟩
theorem iM.below {w w':World} {FX:Nat ->Bool} {X:Nat} {iv:lg} {m:eI} (h:iM w FX X iv m) (hb:Below w.heap.size w w'):iM w' FX X iv m:=h.keeps (P:=fun _=>False) (ep.et hb) (fun _ h=>h.elim)
theorem iM.is {w:World} {FX:Nat ->Bool} {X:Nat} {iv:lg} {m:eI} (h:iM w FX X iv m):eG w iv.u m:=h.mod.gf
def zu (w:World) (FM:Nat ->Bool) (p:Value) (e:Option Ad):Prop:=
 (e=none/\p= .pointer none)\/∃x X v v',e=some x/\p= .pointer (some ⟨X,0,none⟩)/\eS w X #[v, .int .i64 x.fD,v'] 159/\eC w 0 v x.bytes/\ei 3 1 fk w 0 v' x.DH/\FM X=true/\(∀g,eO v g ->FM g=true)/\∀g,eO v' g ->FM g=true
def Nf (w:World) (FSs:Nat ->Bool) (p:Value) (e:zK):Prop:=
 ∃X v v',p= .pointer (some ⟨X,0,none⟩)/\eS w X #[v,v'] 161/\ei 3 1 fk w 0 v e.table/\ei 52 2 fR w 0 v' e.globals/\FSs X=true/\(∀g,eO v g ->FSs g=true)/\∀g,eO v' g ->FSs g=true
theorem eC.lower {w:World} {B B':Nat} {v:Value} {l:List UInt8} (h:eC w B v l) (hB:B' <=B):eC w B' v l:=nH h (fun k hk=>by have:=(eM h hk).1;omega)
theorem zu.keeps {P:Nat ->Prop} {w w':World} {FM:Nat ->Bool} {p:Value} {e:Option Ad} (h:zu w FM p e) (hk:ep P w w') (hP:∀g,P g ->FM g=false):zu w' FM p e:=by
 have hN:∀g,FM g=true ->¬ P g:=fun g hg hp=>by rw [hP g hp]at hg;cases hg
 rcases h with h | ⟨x,X,v,v',h1,h2,h3,h4,h5,h6,h7,h8⟩
 ·exact .inl h
 ·exact .inr ⟨x,X,v,v',h1,h2,h3.keeps hk (hN X h6),h4.keeps hk (fun g hg=>hN g (h7 g hg)),h5.keeps hk (fun g hg=>hN g (h8 g hg)),h6,h7,h8⟩
def sL (a b:Nat):Nat ->Bool:=fun g=>decide (a <=g)&&decide (g < b)
theorem lK {a b g:Nat}:sL a b g=true↔a <=g/\g < b:=by simp [sL]
theorem sG {α:Type} {k:Nat} {enc:α ->List Value} {t:TypeId} {P:Program} (w:World) {ops:Array Oper} {rest:List Oper} {o:Oper} {a:Act} {Q:Exit ->Act ->World ->Prop} (P0:o.guard=none) (s x:Operand) (ts:TypeId)
  (ho:o.op= .call {callee:= .builtin .append,args:=#[s,x],argTypes:=#[ts,ts]})
  (z:Value) (bytes:Nat) (ht:P.underlying ts=some (.slice t)) (SK:(P.info? t).map (fun i=>(i.zero,i.size,i.bytes))=some (some z,k,bytes)) (Sh:z.cells.size=k) (h0:0 < k) (O8:bytes <=100000000)
  (B:Nat) (v:Value) (l:List α) (hs:a.eval s=v) (Nl:ei t k enc w B v l) (hk:∀x,(enc x).length=k)
  (b:Value) (m:List α) (hx:a.eval x=b) (hm:eA k enc w b m) (h1:∀y∈m,∀u∈enc y,u.oneCell'=true)
  (QK:l.length+m.length <=1000000) (NN:B <=w.heap.size)
  (h:∀v' w',ei t k enc w' B v' (l++m) ->ep (eO v) w w' ->eQ w v v' ->wpList P ops Q rest (a.put o.dst v') w'):wpList P ops Q (o::rest) a w:=by
 cases m with
 | cons y m=>
  have hm':=hm;obtain⟨ad,cap,rfl,PV,Ow,hc3⟩:=hm';obtain⟨b,off,rfl,_⟩:=hc3 0 y rfl;exact kX w P0 s x ts ho z bytes ht SK Sh h0 O8 B v l hs Nl hk (y::m) ⟨b,off,none⟩ (y::m).length cap hx hm h1 QK NN h
 | nil=>
  obtain⟨i0,hi,Po,Oi,O1⟩:=bS SK;obtain⟨ad,cap,rfl,PV,Ow,hc3⟩:=hm;have No:(l.length+0)*bytes <=140737488355328:=by
   have:(l.length+0)*bytes <=1000000*100000000:=Nat.mul_le_mul (by simpa using QK) O8;omega
  have key:∃v' w',(Builtin.append_ #[ts,ts] o.type #[v, .slice ad 0 cap]).run P w= .ok v' w'/\ei t k enc w' B v' (l++[])/\ep (eO v) w w'/\eQ w v v':=by
   cases ad with
   | some ad=>
    obtain⟨v',w',h1,h2,h3,h4⟩:=uA (P:=P) w B ts o.type t i0 z k bytes ht hi Po Oi O1 Sh h0 v l.length (l.flatMap enc) Nl ad 0 cap [] (by simp) (by simp) (by simp) (by simp only [aH]at QK;simp only [maxLen];omega) No NN;exact⟨v',w',h1,by simpa [ei] using h2,h3,h4⟩
   | none=>
    rcases Nl.2 with⟨rfl,hl0⟩ | ⟨g,NK,cur,rfl,hb,hg,hn,hm,hs,QT⟩
    ·refine⟨.slice none 0 0,w,?_,by simpa using Nl,ep.refl _ _,eQ.refl _ _⟩
     simp [Builtin.append_,aZ ht,sizeOf,typeInfo,hi,Builtin.lenOf,Builtin.firstCells]
    ·refine⟨.slice (some ⟨g,0,none⟩) l.length NK,w,?_,by simpa using Nl,ep.refl _ _,eQ.refl _ _⟩
     simp [Builtin.append_,aZ ht,sizeOf,typeInfo,hi,Builtin.lenOf,Builtin.firstCells,hn];simp [storeCells]
  obtain⟨v',w',hr,h2,h3,h4⟩:=key;refine dU P0 fun _ hK=>?_;unfold Oper.wp execOp;simp only [ho,resolve,invoke,builtin,cK,bX,cB,dA,bF,cL,hs,hx,hr,aH];exact hK _ _ (h v' w' h2 h3 h4)
theorem vy (a:Option Addr) (len cap k:Nat) (h:k <=cap) (wx:World):
  (Instr.slice 47 (.slice a len cap) none (some (.int .i64 k)) none).run prog wx= .ok (.slice a k cap) wx:=by
 have hu:prog.underlying 47=some (.slice 52):=by kernel_rfl
 obtain⟨i0,hi,Po,Oi,O1⟩:=bS jB;simp [Instr.slice,aZ hu,Instr.sliceBounds,Instr.sliceBound,sizeOf,typeInfo,hi,asIntOf,h];cases a <;>simp [Addr.add]
theorem GU (a:Option Addr) (len cap k:Nat) (h:k <=cap) (wx:World):
  (Instr.slice 58 (.slice a len cap) none (some (.int .i64 k)) none).run prog wx= .ok (.slice a k cap) wx:=by
 have hu:prog.underlying 58=some (.slice 124):=by kernel_rfl
 obtain⟨i0,hi,Po,Oi,O1⟩:=bS nA;simp [Instr.slice,aZ hu,Instr.sliceBounds,Instr.sliceBound,sizeOf,typeInfo,hi,asIntOf,h];cases a <;>simp [Addr.add]
theorem eS.sw {w:World} {X:Nat} {t:TypeId} {a b c:Int} {v:Value} (h:eS w X #[.int .i64 a, .int .i64 b, .int .i64 c,v] t):(loadVar 49 ⟨X,0,none⟩).run prog w= .ok (.agg #[.int .i64 a, .int .i64 b, .int .i64 c,v]) w:=by
 have hs:(prog.underlying 49).map (fun d=>match d with | .struct _ | .array _ _=>true | _=>false)=some true:=by kernel_rfl
 obtain⟨d,h1,h2⟩:=bC.1 hs;exact bW w X t 49 _ _ d h h1 (by cases d <;>first | rfl | (exfalso;simp at h2)) (by kernel_rfl)
def lq (o:gz) (vv:Value):Value:= .agg #[.int .i64 o.kind, .int .i64 o.lH, .int .i64 o.fn,vv]
def fX (v:Value) (w:World) (e:Ending) (w':World):Prop:=e= .returned v/\Below w.heap.size w w'
theorem wD (w:World):Calls prog 50 #[] w (fX (.agg #[.int .i64 1, .int .i64 0, .int .i64 0, .slice none 0 0]) w):=by
 go_enter func50,ntmps50;go_wp2_with fail;refine aF (eH rfl _ _ rfl (eS.sw (eS.new w #[.int .i64 1, .int .i64 0, .int .i64 0, .slice none 0 0] 49))) rfl ⟨rfl,(an _ _).alloc (ag _) _⟩
theorem Bt (w:World):Calls prog 48 #[] w (fX (.agg #[.int .i64 5, .int .i64 0, .int .i64 0, .slice none 0 0]) w):=by
 go_enter func48,ntmps48;go_wp2_with fail;refine aF (eH rfl _ _ rfl (eS.sw (eS.new w #[.int .i64 5, .int .i64 0, .int .i64 0, .slice none 0 0] 49))) rfl ⟨rfl,(an _ _).alloc (ag _) _⟩
theorem Hx (w:World) (n:Int):Calls prog 89 #[.int .i64 n] w (fX (.agg #[.int .i64 4, .int .i64 n, .int .i64 0, .slice none 0 0]) w):=by
 go_enter func89,ntmps89;go_wp2_with fail;refine aF (eH rfl _ _ rfl (eS.sw (eS.new w #[.int .i64 4, .int .i64 n, .int .i64 0, .slice none 0 0] 49))) rfl ⟨rfl,(an _ _).alloc (ag _) _⟩
def JF (D b o gv n cap j:Nat) (x:fi) (w:World):Prop:=
 w.cell? ⟨D,1,none⟩=some (.pointer (some ⟨b,o,none⟩))/\w.cell? ⟨b,o,none⟩=some (.slice (some ⟨gv,0,none⟩) n cap)/\w.cell? ⟨gv,j*2,none⟩=some (.int .i64 x.kind)/\w.cell? ⟨gv,j*2+1,none⟩=some (.int .i64 x.n)
theorem Bv (w:World) (D b o B:Nat) (uv:Value) (l:List fi) (x:fi) (hd:w.cell? ⟨D,1,none⟩=some (.pointer (some ⟨b,o,none⟩))) (hc:w.cell? ⟨b,o,none⟩=some uv) (hv:ei 52 2 fR w B uv (l++[x])):
  Calls prog 53 #[.pointer (some ⟨D,0,none⟩), .int .i64 0] w (fX (.agg #[.int .i64 x.kind, .int .i64 x.n]) w):=by
 obtain⟨gv,cv,cur,Om,-,hgl,hgb,Oh,OS⟩:=hv.open (by simp);have hlen:(l++[x]).length=l.length+1:=by simp
 rw [hlen]at Om Oh;subst Om;have Pd:w.cell? ⟨gv,l.length*2,none⟩=some (.int .i64 x.kind):=by
  have:=ei.cell fK hv (i:=l.length) (j:=0) (x:=x) (u:= .int .i64 x.kind) (by simp) rfl
  rwa [aJ]at this
 have hx1:w.cell? ⟨gv,l.length*2+1,none⟩=some (.int .i64 x.n):=ei.cell fK hv (i:=l.length) (j:=1) (x:=x) (u:= .int .i64 x.n) (by simp) rfl;have hDl:=aO w _ hd;have N2:=aO w _ hc;have hS:JF D b o gv (l.length+1) cv l.length x (w.alloc (.cells #[.int .i64 0, .int .i64 0] 52)).drew:=by
  have hb:=(an w.heap.size w).alloc (ag _) (.cells #[.int .i64 0, .int .i64 0] 52);exact⟨(hb.cell hDl).trans hd,(hb.cell N2).trans hc,(hb.cell hgl).trans Pd,(hb.cell hgl).trans hx1⟩
 have HX:=V (eS.new w #[.int .i64 0, .int .i64 0] 52).drew;have NB:=V ((an w.heap.size w).alloc (ag _) (.cells #[.int .i64 0, .int .i64 0] 52)).drew;unfold maxLen at OS;clear hlen Pd hx1 hd hc hv hgb hDl N2;go_enter func53,ntmps53;go_wp2_with fail;refine eY (JF D b o gv (l.length+1) cv l.length x) 20 (up 0 20 []) (by kernel_rfl) (by kernel_rfl) hS ?_;clear hS;generalize(w.alloc (.cells #[.int .i64 0, .int .i64 0] 52)).drew=w1 at HX NB⊢;iterate 20 (first | (apply sk rfl rfl;simp only [pt]) | (apply eo rfl rfl rfl;·(rintro w' ⟨t0,t1,t2,t3⟩;go_wp2;exact⟨rfl,rfl,rfl⟩)))
 refine fJ rfl rfl ?_;obtain⟨x0,x1,z0,z1⟩:=HX.out.two;go_wp2;refine⟨trivial,?_⟩;refine aA ?_;clear x0 x1 z0 z1;go_wp2_with fail;have Qj:=HX.out.nC (.int .i64 x.kind) (.int .i64 x.n);refine aF (eH rfl _ _ rfl Qj.mj) rfl ⟨rfl,NB.out.trans ((fQ w1 w.heap.size _ _).below NB.out.size (fun i hi=>by omega))⟩
theorem GK (w:World) (D b o B:Nat) (uv:Value) (l:List fi) (x y:fi) (hd:w.cell? ⟨D,1,none⟩=some (.pointer (some ⟨b,o,none⟩))) (hc:w.cell? ⟨b,o,none⟩=some uv) (hv:ei 52 2 fR w B uv (l++[x,y])):
  Calls prog 53 #[.pointer (some ⟨D,0,none⟩), .int .i64 1] w (fX (.agg #[.int .i64 x.kind, .int .i64 x.n]) w):=by
 obtain⟨gv,cv,cur,Om,-,hgl,hgb,Oh,OS⟩:=hv.open (by simp);have hlen:(l++[x,y]).length=l.length+2:=by simp
 rw [hlen]at Om Oh;subst Om;have Pd:w.cell? ⟨gv,l.length*2,none⟩=some (.int .i64 x.kind):=by
  have:=ei.cell fK hv (i:=l.length) (j:=0) (x:=x) (u:= .int .i64 x.kind) (by simp) rfl
  rwa [aJ]at this
 have hx1:w.cell? ⟨gv,l.length*2+1,none⟩=some (.int .i64 x.n):=ei.cell fK hv (i:=l.length) (j:=1) (x:=x) (u:= .int .i64 x.n) (by simp) rfl;have hDl:=aO w _ hd;have N2:=aO w _ hc;have hS:JF D b o gv (l.length+2) cv l.length x (w.alloc (.cells #[.int .i64 0, .int .i64 0] 52)).drew:=by
  have hb:=(an w.heap.size w).alloc (ag _) (.cells #[.int .i64 0, .int .i64 0] 52);exact⟨(hb.cell hDl).trans hd,(hb.cell N2).trans hc,(hb.cell hgl).trans Pd,(hb.cell hgl).trans hx1⟩
 have HX:=V (eS.new w #[.int .i64 0, .int .i64 0] 52).drew;have NB:=V ((an w.heap.size w).alloc (ag _) (.cells #[.int .i64 0, .int .i64 0] 52)).drew;unfold maxLen at OS;clear hlen Pd hx1 hd hc hv hgb hDl N2;go_enter func53,ntmps53;go_wp2_with fail;refine eY (JF D b o gv (l.length+2) cv l.length x) 20 (up 0 20 []) (by kernel_rfl) (by kernel_rfl) hS ?_;clear hS;generalize(w.alloc (.cells #[.int .i64 0, .int .i64 0] 52)).drew=w1 at HX NB⊢;iterate 20 (first | (apply sk rfl rfl;simp only [pt]) | (apply eo rfl rfl rfl;·(rintro w' ⟨t0,t1,t2,t3⟩;go_wp2;exact⟨rfl,rfl,rfl⟩)))
 refine fJ rfl rfl ?_;obtain⟨x0,x1,z0,z1⟩:=HX.out.two;go_wp2;refine⟨trivial,?_⟩;refine aA ?_;clear x0 x1 z0 z1;go_wp2_with fail;have Qj:=HX.out.nC (.int .i64 x.kind) (.int .i64 x.n);refine aF (eH rfl _ _ rfl Qj.mj) rfl ⟨rfl,NB.out.trans ((fQ w1 w.heap.size _ _).below NB.out.size (fun i hi=>by omega))⟩
end Go.Proofs.YtjmeglibedbljaaGreatDoor
