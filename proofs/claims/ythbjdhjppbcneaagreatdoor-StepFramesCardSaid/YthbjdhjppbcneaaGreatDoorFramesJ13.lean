import Derived.Test.YthbjdhjppbcneaaGreatDoorFramesJ12
namespace Go.Proofs.YthbjdhjppbcneaaGreatDoor
set_option maxRecDepth 100000
set_option maxHeartbeats 20000000
open Go.RowKit Tryz
open Lib renaming hid->V
set_option linter.all false
def gT:yL ->List iS ->Option yL
 | s,[]=>some s
 | s,x::l=>(iO s x.off x.funcs).bind fun s'=>gT s' l
theorem pP:∀(s:yL) (l:List iS) (x:iS),gT s (l++[x])=(gT s l).bind fun s'=>iO s' x.off x.funcs
 | s,[],x=>by simp [gT]
 | s,y::l,x=>by
  simp only [bI,gT];cases iO s y.off y.funcs with
  | none=>rfl
  | some s'=>simp [pP s' l x]
theorem pT:∀{s:yL} {l:List iS} {i:Nat},gT s (l.take i)=none ->gT s l=none
 | s,[],i,h=>by simpa using h
 | s,x::l,0,h=>by simp [gT]at h
 | s,x::l,i+1,h=>by
  simp only [List.take_succ_cons,gT]at h⊢;cases hx:iO s x.off x.funcs with
  | none=>rfl
  | some s'=>
   rw [hx]at h;exact pT (s:=s') (l:=l) (i:=i) h
def CT (m:ez) (w:World) (e:Ending) (w':World):Prop:=
 Below w.heap.size w w'/\((iA m≠-1/\e= .returned (.tuple #[.pointer none, .int .i64 6]))\/(iA m= -1/\gT (gM m) m.elems=none/\e= .returned (.tuple #[.pointer none, .int .i64 3]))\/
  ∃X FX FM FSs iv sp,iA m= -1/\gT (gM m) m.elems=some sp/\e= .returned (.tuple #[.pointer (some ⟨X,0,none⟩), .int .i64 0])/\jg w' FX X iv m/\xi w' FM iv.vm (jl m.mem)/\Kp w' FSs iv.vs sp/\
   (∀g,FX g=true\/FM g=true\/FSs g=true ->w.heap.size <=g/\g < w'.heap.size)/\∀g,(FX g=true ->FM g=false/\FSs g=false)/\(FM g=true ->FSs g=false))
structure sb (w0:World) (m:ez) (w:World) (X:Nat) (u:eD) (vm:Value) (Xs a s3 s4 s5:Nat) (sp:yL):Prop where
 below:Below w0.heap.size w0 w
 ord:w0.heap.size <=a/\a <=s3/\s3 <=s4/\s4 <=s5/\X=s5/\s5 < w.heap.size
 mod:ep (mask (fun k=> !rr a s3 k) w) u m
 kf:eG w X (sM ⟨u,vm, .pointer (some ⟨Xs,0,none⟩), .slice none 0 0,[]⟩ m) 93
 mem:xi w (rr s3 s4) vm (jl m.mem)
 space:nO w s4 Xs sp
 xs:s4 <=Xs/\Xs < s5
theorem sb.keeps {w0:World} {m:ez} {w w':World} {X:Nat} {u:eD} {vm:Value} {Xs a s3 s4 s5:Nat} {sp sp':yL} {P:Nat ->Prop} (h:sb w0 m w X u vm Xs a s3 s4 s5 sp) (hk:dU P w w') (hP:∀g,P g ->s4 <=g/\¬ g=X) (hs:nO w' s4 Xs sp'):sb w0 m w' X u vm Xs a s3 s4 s5 sp':=by
 obtain⟨o1,o2,o3,o4,o5,o6⟩:=h.ord;refine⟨h.below.trans (hk.below h.below.size (fun i hi=>by have:=(hP i hi).1;omega)),⟨o1,o2,o3,o4,o5,bH o6 hk.size⟩,h.mod.ext (iE hk (fun k _ hp=>?_) (fun k _ hp=>hp)),h.kf.keeps hk (fun hx=>(hP X hx).2 rfl),h.mem.keeps hk (fun g hg=>?_),hs,h.xs⟩
 ·have:=(hP k hp).1
  simp [rr];omega
 ·have:=(hP g hg).1
  simp [rr];omega
theorem GG {w:World} {B:Nat} {p:Value} {e:Option zz} (h:JF w B p e):xi w (rr B w.heap.size) p e:=by
 rcases h with h | ⟨x,X,h1,h2,⟨v,v',h3,h4,h5⟩,h6⟩
 ·exact .inl h
 ·exact .inr ⟨x,X,v,v',h1,h2,h3,h4.lower (bK _),h5.lower (bK _),kZ.2 ⟨h6,h3.lt⟩,fun g hg=>kZ.2 (et h4 hg),fun g hg=>kZ.2 (et h5 hg)⟩
theorem nO.keeps {P:Nat ->Prop} {w w':World} {B X:Nat} {e:yL} (h:nO w B X e) (hX:B <=X) (hk:dU P w w') (hP:∀g,P g ->g < B\/w.heap.size <=g):nO w' B X e:=by
 obtain⟨v,v',h1,h2,h3⟩:=h;have:=h1.lt;exact⟨v,v',h1.keeps hk (fun hp=>by have:=hP X hp;omega),h2.keeps hk (fun g hg hp=>by have:=et h2 hg;have:=hP g hp;omega),h3.keeps hk (fun g hg hp=>by have:=et h3 hg;have:=hP g hp;omega)⟩
def Dg (FM:Nat ->Bool) (p:Value) (e:Option zz) (w:World) (en:Ending) (w':World):Prop:=en= .returned (.tuple #[])/\xi w' FM p (e.map fun x=>{x with Bq:=[]})/\dU (fun i=>FM i=true) w w'
theorem Am (w:World) (FM:Nat ->Bool) (p:Value) (e:Option zz) (h:xi w FM p e):Calls prog 33 #[p] w (Dg FM p e w):=by
 rcases h with⟨rfl,rfl⟩ | ⟨x,X,v,v',rfl,rfl,hx,hb,hd,h1,h2,h3⟩
 ·go_enter func33,ntmps33
  go_wp2_with fail
  go_end0
  exact⟨rfl, .inl ⟨rfl,rfl⟩,dU.refl _ _⟩
 ·have x2:w.cell? ⟨X,2,none⟩=some v':=hx.cell 2
  have z2:=hx.free 2;have HX:=V hx;have HB:=V hb;have H1:=V h1;have H2:=V h2;clear hb hd hx h1 h2 h3;go_enter func33,ntmps33;go_wp2_with fail
  go_end0
  have Kz:=eu w X 2 (.slice none 0 0);exact⟨rfl, .inr ⟨_,X,_,_,rfl,rfl,HX.out.set 2 (.slice none 0 0),HB.out.keeps Kz (dX.gA HB.out HX.out (by decide)),dT.nil _ _,H1.out,H2.out,fun g hg=>by simp [eA,Value.ownBlock]at hg⟩,Kz.mono (fun i hi=>by subst hi;exact H1.out)⟩
theorem xd (l:fP):(jl l).map (fun x=>{x with Bq:=[]})=jl l:=by
 unfold jl;split <;>rfl
theorem nO.FQ {w:World} {B X:Nat} {xs:Array Value} {t:TypeId} (hx:eG w X xs t) (ht:t≠3):¬ EW w B X:=fun⟨_,_,hy⟩=>ht (hx.uniq hy)
theorem sb.clean {w0:World} {m:ez} {w w':World} {X:Nat} {u:eD} {vm:Value} {Xs a s3 s4 s5:Nat} {sp:yL} (h:sb w0 m w X u vm Xs a s3 s4 s5 sp) (hk:dU (fun i=>rr s3 s4 i=true) w w') (hm:xi w' (rr s3 s4) vm (jl m.mem)):sb w0 m w' X u vm Xs a s3 s4 s5 sp:=by
 obtain⟨o1,o2,o3,o4,o5,o6⟩:=h.ord;refine⟨h.below.trans (hk.below h.below.size (fun i hi=>by have:=kZ.1 hi;omega)),⟨o1,o2,o3,o4,o5,bH o6 hk.size⟩,h.mod.ext (iE hk (fun k _ hp=>?_) (fun k _ hp=>hp)),h.kf.keeps hk (fun hx=>by have:=kZ.1 hx;omega),hm,h.space.keeps h.xs.1 hk (fun g hg=> .inl (kZ.1 hg).2),h.xs⟩;have:=kZ.1 hp;simp [rr];omega
theorem vD {l:List eK} {i:Nat} {x:eK} {st NN:List kl × List Nat} (h:gf l i x st=some NN) (hp:∀b∈st.1,0 <=b.pos/\b.pos <=i):∀b∈NN.1,0 <=b.pos/\b.pos <=i:=by
 have Ow:∀(k:Nat) (b b':kl),st.1[k]?=some b ->b'.pos=b.pos ->∀y∈st.1.set k b',0 <=y.pos/\y.pos <=i:=by
  intro k b b' hb he y hy;rcases dK hy with h1 | h1
  ·exact hp y h1
  ·rw [h1,he]
   exact hp b (aO hb)
 unfold gf at h;split at h
 ·split at h
  ·cases h
  ·injection h with h
   subst h;intro b hb;rcases bx.1 hb with h1 | h1
   ·exact hp b h1
   ·rw [aV.1 h1]
    exact⟨by simp,by simp⟩
 ·split at h
  ·injection h with h
   subst h;exact hp
  ·split at h
   ·cases h
   ·rename_i k hk
    split at h
    ·cases h
    ·rename_i b hb
     split at h
     ·injection h with h
      subst h;exact Ow k b _ hb rfl
     ·split at h
      ·cases h
      ·split at h
       ·cases h
       ·injection h with h
        subst h;exact Ow k b _ hb rfl
theorem so (l:List eK):∀(rest:List eK) (i:Nat) (st NN:List kl × List Nat),gx l rest i st=some NN ->(∀b∈st.1,0 <=b.pos/\b.pos <=i) ->∀b∈NN.1,0 <=b.pos/\b.pos <=i+rest.length
 | [],i,st,NN,h,hp=>by
  simp only [gx,aX]at h;subst h;simpa using hp
 | x::rest,i,st,NN,h,hp=>by
  simp only [gx]at h;cases hs:gf l i x st with
  | none=>rw [hs]at h;simp at h
  | some QK=>
   rw [hs,aw]at h;have h1:=vD hs hp;intro b hb;have:=so l rest (i+1) QK NN h (fun b hb=>by have:=h1 b hb;omega) b hb;rw [aI];omega
theorem yc {l:List eK} {bs:List kl} (h:fC l=some bs):∀b∈bs,0 <=b.pos/\b.pos <=300:=by
 unfold fC at h;split at h
 ·cases h
 ·rename_i hl
  cases hg:gx l l 0 ([],[])with
  | none=>rw [hg]at h;simp at h
  | some st=>
   rw [hg,aw]at h;split at h
   ·injection h with h
    subst h;intro b hb;have:=so l l 0 _ _ hg (by simp) b hb;omega
   ·cases h
theorem fX.new (w:World):fX (w.alloc (.map #[] 0)) w.heap.size []:=⟨0,ag _,World.ownsMap_made _ _ _ _⟩
theorem y8 {w w':World} {j:Nat} (h:w.grownBy w' (some j)):dU (fun g=>g=j) w w':=⟨h.os,h.tape,h.output,h.size,fun k hk hn=>h.block k hk (fun e=>hn (by injection e))⟩
theorem Ct:(prog.info? 72).map (fun i=>(i.zero,i.size,i.bytes))=some (some (.map none),1,8):=by kernel_rfl
structure vQ (hi:Nat) (w:World) (X:Nat) (u:eD) (vm vs:Value) (m:ez) (vj:Value) (js:List Nat):Prop where
 kf:eG w X (sM ⟨u,vm,vs,vj,js⟩ m) 93
 row:dT 72 1 zc w hi vj js
 maps:∀(i j:Nat) (c:gF),js[i]?=some j ->m.ej[i]?=some c ->fX w j (nX c)/\hi <=j
theorem fX.gA {w:World} {j X:Nat} {l:List kl} {xs:Array Value} {t:TypeId} (h:fX w j l) (hx:eG w X xs t):j≠X:=by
 obtain⟨_,_,es,clock,hb,_⟩:=h;intro e;subst e;have:=hx.symm.trans hb;injection this with this;cases this
theorem vQ.more {hi:Nat} {w w1 w2 w3:World} {X:Nat} {u:eD} {vm vs:Value} {m:ez} {vj:Value} {js:List Nat} {j:Nat} {c:gF} {a2:Option Addr} {n2 c2:Nat} (h:vQ hi w X u vm vs m vj js) (hb:Below w.heap.size w w1) (hj1:w.heap.size <=j) (hk:dU (fun g=>g=j) w1 w2) (hc:m.ej[js.length]?=some c) (hjm:fX w2 j (nX c)) (hhi:hi <=w.heap.size)
  (ho:dT 72 1 zc w3 hi (.slice a2 n2 c2) (js++[j])) (K7:dU (eA vj) w2 w3):vQ hi (w3.setCell ⟨X,16,none⟩ (.slice a2 n2 c2)) X u vm vs m (.slice a2 n2 c2) (js++[j]):=by
 have P4:=h.kf.lt;have hXj:¬ X=j:=by omega
 have N4:=(h.kf.below hb P4).keeps hk hXj;have PN:dT 72 1 zc w2 hi vj js:=(h.row.below hb).keeps hk (fun g hg e=>by have:=(et h.row hg).2;omega);have hx3:=N4.keeps K7 (fun hg=>dT.gA PN N4 (by decide) X hg rfl);have Kz:=eu w3 X 16 (.slice a2 n2 c2);have key:∀(j':Nat) (l:List kl),fX w2 j' l ->fX (w3.setCell ⟨X,16,none⟩ (.slice a2 n2 c2)) j' l:=fun j' l g=>by
  have g3:=g.keeps K7 (fun hg=>by
   obtain⟨cur,hcur⟩:=PN.has hg;exact g.gA hcur rfl)
  exact g3.keeps Kz (g3.gA hx3)
 refine⟨?_,ho.keeps Kz (dT.gA ho hx3 (by decide)),fun i j' c' hj' Mh=>?_⟩
 ·have:=hx3.set 16 (.slice a2 n2 c2)
  simpa [sM] using this
 ·by_cases q:i < js.length
  ·rw [bu q]at hj'
   obtain⟨g1,g2⟩:=h.maps i j' c' hj' Mh;exact⟨key j' _ ((g1.below hb).keeps hk (by have:=g1.lt;omega)),g2⟩
  ·have hi2:=(aN.1 hj').1
   rw [ah,aB]at hi2;obtain rfl:i=js.length:=by omega
   rw [bg (ag _),Nat.sub_self]at hj';simp only [aF,aX]at hj';subst hj';rw [hc]at Mh;injection Mh with Mh;subst Mh;exact⟨key j _ hjm,by omega⟩
theorem lU (m:ez) (u:eD) (w:World) (hm:ep w u m) (hs:m.words) (he:∀c∈m.ej,∀x∈c.body,x.mi) (hn:m.imports.length+m.funcs.length <=1000000) (hd:m.eC=[]):Calls prog 9 #[.agg (u.cells m)] w (CT m w):=by
 have HI:=V hm;have HWD:=V hs;have HE:=V he;have HND:=V hd;obtain⟨a0,c0,a1,c1,a2,c2,a3,c3,a4,c4,a5,c5,a6,c6,a7,c7,rfl⟩:=ep.open hm;simp only [eD.cells];clear hm hs he hd;have HX:=V (eG.new w #[.slice a0 m.types.length c0, .slice a1 m.imports.length c1, .slice a2 m.funcs.length c2, .bool m.table.has, .int .i64 m.table.min, .int .i64 m.table.max, .bool m.mem.has, .int .i64 m.mem.min, .int .i64 m.mem.max, .slice a3 m.globals.length c3, .slice a4 m.ea.length c4, .slice a5 m.elems.length c5, .slice a6 m.ej.length c6, .slice a7 m.eC.length c7] 62);have HS:=V ((an w.heap.size w).alloc (ag _) (.cells #[.slice a0 m.types.length c0, .slice a1 m.imports.length c1, .slice a2 m.funcs.length c2, .bool m.table.has, .int .i64 m.table.min, .int .i64 m.table.max, .bool m.mem.has, .int .i64 m.mem.min, .int .i64 m.mem.max, .slice a3 m.globals.length c3, .slice a4 m.ea.length c4, .slice a5 m.elems.length c5, .slice a6 m.ej.length c6, .slice a7 m.eC.length c7] 62));go_enter func9,ntmps9;go_wp2_with fail;refine(pr m ⟨.slice a0 m.types.length c0, .slice a1 m.imports.length c1, .slice a2 m.funcs.length c2, .slice a3 m.globals.length c3, .slice a4 m.ea.length c4, .slice a5 m.elems.length c5, .slice a6 m.ej.length c6, .slice a7 m.eC.length c7⟩ _ (ep.below HI.out HS.out) HWD.out hn HE.out).mono ?_;rintro e w1 ⟨rfl,hb⟩;replace HX:=V (HX.out.below hb HX.out.lt);replace HS:=V (HS.out.trans (hb.mono HS.out.size));clear hb;by_cases hv:iA m= -1;rotate_left
 ·have f1:decide (iA m= -1)=false:=az hv
  have HV:=V hv;rw [f1];clear hv;go_wp2_with fail
  go_ret2
  exact⟨HS.out, .inl ⟨HV.out,rfl⟩⟩
 have Mg:m.may:=by
  by_cases q:m.may
  ·exact q
  ·exfalso
   rw [iA,aJ (az q)]at hv;exact absurd hv (by decide)
 have ME:=V Mg;have HV:=V hv;have htb:m.table.has=true ->0 <=m.table.min/\m.table.min <=1000:=fun h=>by
  have h1:=Mg.1.2.2.1;unfold fP.may at h1;simp only [h]at h1;simp at h1;omega
 have hgl:m.globals.length <=1000:=by
  have h1:=Mg.1.2.1.2.1.1;omega
 have hel16:m.elems.length <=16:=Mg.1.2.1.2.2.2.1.1;have hco16:m.ej.length <=16:=Mg.1.1.2.1;have OX:=V htb;rw [hv];clear hv Mg htb;have ht:=HX.out.drew.mod;go_wp2_with fail;refine ef (fun w'=>w'.cell? ⟨w.heap.size,0,none⟩=some (.slice a0 m.types.length c0)/\w'.cell? ⟨w.heap.size,1,none⟩=some (.slice a1 m.imports.length c1)/\w'.cell? ⟨w.heap.size,2,none⟩=some (.slice a2 m.funcs.length c2)/\w'.cell? ⟨w.heap.size,3,none⟩=some (.bool m.table.has)/\w'.cell? ⟨w.heap.size,4,none⟩=some (.int .i64 m.table.min)/\w'.cell? ⟨w.heap.size,5,none⟩=some (.int .i64 m.table.max)/\w'.cell? ⟨w.heap.size,6,none⟩=some (.bool m.mem.has)/\w'.cell? ⟨w.heap.size,7,none⟩=some (.int .i64 m.mem.min)/\w'.cell? ⟨w.heap.size,8,none⟩=some (.int .i64 m.mem.max)/\w'.cell? ⟨w.heap.size,9,none⟩=some (.slice a3 m.globals.length c3)/\w'.cell? ⟨w.heap.size,10,none⟩=some (.slice a4 m.ea.length c4)/\w'.cell? ⟨w.heap.size,11,none⟩=some (.slice a5 m.elems.length c5)/\w'.cell? ⟨w.heap.size,12,none⟩=some (.slice a6 m.ej.length c6)/\w'.cell? ⟨w.heap.size,13,none⟩=some (.slice a7 m.eC.length c7)) [(0,true),(2,true),(3,true),(5,true),(1,false),(4,false),(6,false),(7,true),(8,false),(9,true)] (by kernel_rfl) (by kernel_rfl) ht ?_;clear ht;replace HX:=V HX.out.drew;replace HS:=V HS.out.drew;generalize w1.drew=w2 at HX HS⊢;iterate 4 (first | (apply sk rfl rfl;simp only [pt]) | (apply dV rfl rfl rfl;·(rintro w' ⟨t0,t1,t2,t3,t4,t5,t6,t7,t8,t9,t10,t11,t12,t13⟩;go_wp2;exact⟨rfl,rfl,rfl⟩)))
 refine ed rfl rfl ?_;go_wp2_with fail;refine(Ao m ⟨.slice a0 m.types.length c0, .slice a1 m.imports.length c1, .slice a2 m.funcs.length c2, .slice a3 m.globals.length c3, .slice a4 m.ea.length c4, .slice a5 m.elems.length c5, .slice a6 m.ej.length c6, .slice a7 m.eC.length c7⟩ w2 (ep.below HI.out HS.out) HWD.out ME.out).mono ?_;rintro e w3 ⟨u',rfl,hu,hb⟩;have s2:=HX.out.lt;replace HX:=V (HX.out.below hb HX.out.lt);replace HS:=V (HS.out.trans (hb.mono HS.out.size));have s23:=hb.size;obtain⟨b0,k0,b1,k1,b2,k2,b3,k3,b4,k4,b5,k5,b6,k6,b7,k7,rfl⟩:=ep.open hu;simp only [eD.cells];have HU:=V hu;clear hu hb;go_wp2_with fail;refine⟨HX.out.mod,?_⟩;refine ed rfl rfl ?_;go_wp2_with fail;refine(z9 m.mem w3).mono ?_;rintro e w4 ⟨hb,hme⟩;obtain⟨vm,rfl,hp⟩:∃vm,e= .returned vm/\JF w4 w3.heap.size vm (jl m.mem):=by
  rcases hme with⟨h1,rfl⟩ | ⟨x,X,h1,rfl,h2,h3⟩
  ·exact⟨_,rfl, .inl ⟨h1,rfl⟩⟩
  ·exact⟨_,rfl, .inr ⟨x,X,h1,rfl,h2,h3⟩⟩
 obtain⟨pm,hpm⟩:∃pm,vm= .pointer pm:=by
  rcases hp with⟨-,h⟩ | ⟨_,X,-,h,-⟩
  ·exact⟨_,h⟩
  ·exact⟨_,h⟩
 subst hpm;have s34:=hb.size;replace HX:=V (HX.out.below hb HX.out.lt);replace HS:=V (HS.out.trans (hb.mono HS.out.size));have HMP:=V hp;have HB34:=V hb;clear hb hme hp;go_wp2_with fail;refine⟨HX.out.mod,?_⟩;refine ed rfl rfl ?_;go_wp2_with fail;refine(xt m ⟨.slice a0 m.types.length c0, .slice a1 m.imports.length c1, .slice a2 m.funcs.length c2, .slice a3 m.globals.length c3, .slice a4 m.ea.length c4, .slice a5 m.elems.length c5, .slice a6 m.ej.length c6, .slice a7 m.eC.length c7⟩ w4 (ep.below HI.out HS.out) OX.out hgl).mono ?_;rintro e w5 ⟨Xs,rfl,Qs,hXs,hb⟩;have s45:=hb.size;replace HX:=V (HX.out.below hb HX.out.lt);replace HS:=V (HS.out.trans (hb.mono HS.out.size));have Qt:=V Qs;have HB45:=V hb;have P4:Xs < w5.heap.size:=by obtain⟨_,_,h,_⟩:=Qs;exact h.lt
 clear hb Qs;go_wp2_with fail;refine⟨HX.out.mod,?_⟩;iterate 1 (first | (apply sk rfl rfl;simp only [pt]) | (apply dV rfl rfl rfl;·(rintro w' ⟨t0,t1,t2,t3,t4,t5,t6,t7,t8,t9,t10,t11,t12,t13⟩;go_wp2;exact⟨rfl,rfl,rfl⟩)))
 refine ed rfl rfl ?_;have hb:=(an w5.heap.size w5).alloc (ag _) (.cells #[.slice b0 m.types.length k0, .slice b1 m.imports.length k1, .slice b2 m.funcs.length k2, .bool m.table.has, .int .i64 m.table.min, .int .i64 m.table.max, .bool m.mem.has, .int .i64 m.mem.min, .int .i64 m.mem.max, .slice b3 m.globals.length k3, .slice b4 m.ea.length k4, .slice b5 m.elems.length k5, .slice b6 m.ej.length k6, .slice b7 m.eC.length k7, .pointer pm, .pointer (some ⟨Xs,0,none⟩), .slice none 0 0] 93);have hxx:=eG.new w5 #[.slice b0 m.types.length k0, .slice b1 m.imports.length k1, .slice b2 m.funcs.length k2, .bool m.table.has, .int .i64 m.table.min, .int .i64 m.table.max, .bool m.mem.has, .int .i64 m.mem.min, .int .i64 m.mem.max, .slice b3 m.globals.length k3, .slice b4 m.ea.length k4, .slice b5 m.elems.length k5, .slice b6 m.ej.length k6, .slice b7 m.eC.length k7, .pointer pm, .pointer (some ⟨Xs,0,none⟩), .slice none 0 0] 93;have HN:=V (show sb w m _ w5.heap.size ⟨.slice b0 m.types.length k0, .slice b1 m.imports.length k1, .slice b2 m.funcs.length k2, .slice b3 m.globals.length k3, .slice b4 m.ea.length k4, .slice b5 m.elems.length k5, .slice b6 m.ej.length k6, .slice b7 m.eC.length k7⟩ (.pointer pm) Xs w2.heap.size w3.heap.size w4.heap.size w5.heap.size (gM m)from
  ⟨HS.out.trans (hb.mono HS.out.size),⟨Nat.le_of_lt s2,s23,s34,s45,rfl,hxx.lt⟩,
   HU.out.ext (iE ((dU.dW (S:=fun _=>False) HB34.out).trans ((dU.dW (S:=fun _=>False) HB45.out).trans (dU.dW (S:=fun _=>False) hb) (fun _ h=>h.elim)) (fun _ h=>h.elim)) (fun _ _ h=>h.elim) (fun i hi h=>by simp [rr,kH]at h⊢;omega)),
   hxx,(GG HMP.out).keeps (P:=fun _=>False) ((dU.dW HB45.out).trans (dU.dW (S:=fun _=>False) hb) (fun _ h=>h.elim)) (fun _ h=>h.elim),nO.keeps (P:=fun _=>False) Qt.out hXs (dU.dW hb) (fun _ h=>h.elim),hXs,P4⟩)
 replace HX:=V (HX.out.below hb HX.out.lt);clear hb hxx HMP Qt HB34 HB45 HU HS;go_wp2_with fail;generalize w5.alloc (.cells #[.slice b0 m.types.length k0, .slice b1 m.imports.length k1, .slice b2 m.funcs.length k2, .bool m.table.has, .int .i64 m.table.min, .int .i64 m.table.max, .bool m.mem.has, .int .i64 m.mem.min, .int .i64 m.mem.max, .slice b3 m.globals.length k3, .slice b4 m.ea.length k4, .slice b5 m.elems.length k5, .slice b6 m.ej.length k6, .slice b7 m.eC.length k7, .pointer pm, .pointer (some ⟨Xs,0,none⟩), .slice none 0 0] 93)=w6 at HX HN⊢;refine⟨HX.out.mod,?_⟩;iterate 1 (first | (apply sk rfl rfl;simp only [pt]) | (apply dV rfl rfl rfl;·(rintro w' ⟨t0,t1,t2,t3,t4,t5,t6,t7,t8,t9,t10,t11,t12,t13⟩;go_wp2;exact⟨rfl,rfl,rfl⟩)))
 refine eL ?_;refine aD ?_;clear HX s2 s23 s34 s45 hXs P4;generalize w2.heap.size=a at HN;generalize w3.heap.size=s3 at HN;generalize w4.heap.size=s4 at HN;generalize w5.heap.size=X at HN⊢;have x11:w6.cell? ⟨X,11,none⟩=some (.slice b5 m.elems.length k5):=HN.out.kf.cell 11;go_wp2_with fail;clear x11;refine eB (fun a' w'=>∃(i:Nat) (sp:yL),a'=fr (gs a' 0 6 (.pointer (some ⟨X,0,none⟩)::gs a' 7 33 (.slice b5 m.elems.length k5:: .int .i64 m.elems.length:: .int .i64 i::gs a' 43 108 [])))/\i <=m.elems.length/\gT (gM m) (m.elems.take i)=some sp/\sb w m w' X ⟨.slice b0 m.types.length k0, .slice b1 m.imports.length k1, .slice b2 m.funcs.length k2, .slice b3 m.globals.length k3, .slice b4 m.ea.length k4, .slice b5 m.elems.length k5, .slice b6 m.ej.length k6, .slice b7 m.eC.length k7⟩ (.pointer pm) Xs a s3 s4 X sp) (fun a' _=>(m.elems.length - (intOf (a'.tmps.getD 42 undef)).toNat)) ?_ ?_
 ·exact⟨0,gM m,rfl,bK _,rfl,HN.out⟩
 ·skip
  rintro R a' w1 ⟨i,sp,Kw,hJ⟩ HR;dsimp only [fr,gs]at Kw;generalize slot a'=f at Kw;subst Kw;obtain⟨hi,hel,hnw⟩:=hJ;have HEL:=V hel;have HNW:=V hnw;clear hel hnw HN;by_cases q:i < m.elems.length
  ·obtain⟨e,he⟩:∃e,m.elems[i]?=some e:=⟨_,aq q⟩
   obtain⟨be,offe,cape,ue,LV,-,-,hbel,KV,Li⟩:=ee.at HNW.out.mod.2.2.2.2.2.1 he;injection LV with e1 e2 e3;subst e1 e3;obtain⟨af,cf,hfe,-,hcfm⟩:=Li.1.sl;have y0:w1.cell? ⟨be,offe+i*2,none⟩=some (.int .i64 e.off):=by
    have:=(gl (KV 0 _ rfl)).2
    rwa [aL]at this
   have y1:w1.cell? ⟨be,offe+i*2+1,none⟩=some (.slice af e.funcs.length cf):=by
    rw [<- hfe];exact(gl (KV 1 _ rfl)).2
   have HEE:=V he;have LY:=(an w1.heap.size w1).alloc (ag _) (.cells #[.int .i64 e.off, .slice af e.funcs.length cf] 95);have Lt:=V LY;have MX:=V (eG.new w1 #[.int .i64 e.off, .slice af e.funcs.length cf] 95).drew;have HF:=V (show eg 1 fb w1 (.slice af e.funcs.length cf) e.funcs by rw [<- hfe];exact Li.1.fT);have KI:=V ((HNW.out.kf.alloc (.cells #[.int .i64 e.off, .slice af e.funcs.length cf] 95)).drew);have NY:World.cell? _ ⟨X,15,none⟩=some (.pointer (some ⟨Xs,0,none⟩)):=KI.out.cell 15;have v0:World.cell? _ ⟨w1.heap.size,0,none⟩=some (.int .i64 e.off):=MX.out.cell 0;have v1:World.cell? _ ⟨w1.heap.size,1,none⟩=some (.slice af e.funcs.length cf):=MX.out.cell 1;clear he KV Li hfe e2 hbel LY;go_wp2_with fail;refine ef (fun w'=>w'.cell? ⟨X,15,none⟩=some (.pointer (some ⟨Xs,0,none⟩))/\w'.cell? ⟨w1.heap.size,0,none⟩=some (.int .i64 e.off)/\w'.cell? ⟨w1.heap.size,1,none⟩=some (.slice af e.funcs.length cf)) (up 0 8 ((8,false)::(9,true)::[])) (by kernel_rfl) (by kernel_rfl) ⟨NY,v0,v1⟩ ?_;clear NY v0 v1 y0 y1;have HNA:=V (HNW.out.keeps (P:=fun _=>False) (dU.dW Lt.out.drew) (fun _ h=>h.elim) (nO.keeps (P:=fun _=>False) HNW.out.space HNW.out.xs.1 (dU.dW Lt.out.drew) (fun _ h=>h.elim)));have HF2:=V (HF.out.ext (Ext.dW Lt.out.drew));clear HNW HF Lt;generalize(w1.alloc (.cells #[.int .i64 e.off, .slice af e.funcs.length cf] 95)).drew=w7 at HNA HF2 KI MX⊢;iterate 8 (first | (apply sk rfl rfl;simp only [pt]) | (apply dV rfl rfl rfl;·(rintro w' ⟨t0,t1,t2⟩;go_wp2;exact⟨rfl,rfl,rfl⟩)))
   refine ed rfl rfl ?_;go_wp2_with fail;refine(xe w7 s4 Xs sp (.slice af e.funcs.length cf) e.off e.funcs HNA.out.space HF2.out).mono ?_;rintro en w8 ⟨rfl,hs8,M0⟩;have Pn:=nO.FQ (B:=s4) KI.out (by decide);have hEn:=nO.FQ (B:=s4) MX.out (by decide);have HX8:=V (KI.out.keeps M0 Pn);have HE8:=V (MX.out.keeps M0 hEn);have HN8:=V (HNA.out.keeps M0 (fun g hg=>⟨hg.1,fun e=>by subst e;exact Pn hg⟩) hs8);clear Pn hEn hs8 M0 HNA KI MX;obtain⟨r,hr⟩:∃r,iO sp e.off e.funcs=r:=⟨_,rfl⟩;rw [hr]at HN8⊢;have HT:=V (show gT (gM m) (m.elems.take (i+1))=r by rw [aQ,HEE.out,Option.toList_some,pP,HEL.out];exact hr);clear hr;cases r with
   | none=>
    simp only [Option.isSome_none];go_wp2_with fail;refine⟨⟨HX8.out.cell 15,HE8.out.cell 0,HE8.out.cell 1⟩,?_⟩;iterate 1 (first | (apply sk rfl rfl;simp only [pt]) | (apply dV rfl rfl rfl;·(rintro w' ⟨t0,t1,t2⟩;go_wp2;exact⟨rfl,rfl,rfl⟩)))
    refine eL ?_;refine aD ?_;go_wp2_with fail
    go_ret2
    exact⟨HN8.out.below, .inr (.inl ⟨HV.out,pT HT.out,rfl⟩)⟩
   | some sp2=>
    simp only [Option.isSome_some];go_wp2_with fail;refine⟨⟨HX8.out.cell 15,HE8.out.cell 0,HE8.out.cell 1⟩,?_⟩;iterate 1 (first | (apply sk rfl rfl;simp only [pt]) | (apply dV rfl rfl rfl;·(rintro w' ⟨t0,t1,t2⟩;go_wp2;exact⟨rfl,rfl,rfl⟩)))
    refine eL ?_;refine aD ?_;go_wp2_with fail;refine HR.out _ _ ⟨i+1,sp2,rfl,by omega,HT.out,HN8.out⟩ ?_;simp [intOf];omega
  ·obtain rfl:i=m.elems.length:=by omega
   rw [aU]at HEL;have hdl:m.eC.length=0:=by rw [HND.out];rfl
   have x13:w1.cell? ⟨X,13,none⟩=some (.slice b7 m.eC.length k7):=HNW.out.kf.cell 13;rw [hdl]at x13;have x14:w1.cell? ⟨X,14,none⟩=some (.pointer pm):=HNW.out.kf.cell 14;clear hdl HR q;go_wp2_with fail;clear x13;refine cU 1 ?_;rw [cN];go_wp2_with fail;clear x14;refine(Am w1 (rr s3 s4) (.pointer pm) (jl m.mem) HNW.out.mem).mono ?_;rintro en w7 ⟨rfl,hm7,hk7⟩;rw [xd]at hm7;have QZ:=V (HNW.out.clean hk7 hm7);clear hm7 hk7 HNW;have HJ:=V (show vQ w7.heap.size w7 X ⟨.slice b0 m.types.length k0, .slice b1 m.imports.length k1, .slice b2 m.funcs.length k2, .slice b3 m.globals.length k3, .slice b4 m.ea.length k4, .slice b5 m.elems.length k5, .slice b6 m.ej.length k6, .slice b7 m.eC.length k7⟩ (.pointer pm) (.pointer (some ⟨Xs,0,none⟩)) m (.slice none 0 0) []from
    ⟨QZ.out.kf,dT.nil _ _,fun i j c h=>by simp at h⟩)
   have x12:w7.cell? ⟨X,12,none⟩=some (.slice b6 m.ej.length k6):=QZ.out.kf.cell 12;go_wp2_with fail;clear x12;refine eB (fun a' w'=>∃(k:Nat) (vj:Value) (js:List Nat),a'=fr (gs a' 0 6 (.pointer (some ⟨X,0,none⟩)::gs a' 7 108 (.slice b6 m.ej.length k6:: .int .i64 m.ej.length:: .int .i64 k::gs a' 118 33 [])))/\(k <=m.ej.length/\js.length=k)/\vQ w7.heap.size w' X ⟨.slice b0 m.types.length k0, .slice b1 m.imports.length k1, .slice b2 m.funcs.length k2, .slice b3 m.globals.length k3, .slice b4 m.ea.length k4, .slice b5 m.elems.length k5, .slice b6 m.ej.length k6, .slice b7 m.eC.length k7⟩ (.pointer pm) (.pointer (some ⟨Xs,0,none⟩)) m vj js/\dU (fun i=>i=X) w7 w') (fun a' _=>(m.ej.length - (intOf (a'.tmps.getD 117 undef)).toNat)) ?_ ?_
   ·exact⟨0,_,[],rfl,⟨bK _,rfl⟩,HJ.out,dU.refl _ _⟩
   ·clear HJ
    rintro R a' w8 ⟨k,vj,js,Kw,hJ⟩ HR;dsimp only [fr,gs]at Kw;generalize slot a'=f at Kw;subst Kw;obtain⟨⟨hk,hjl⟩,hj,M0⟩:=hJ;subst hjl;have HJ:=V hj;have HK:=V M0;have HN8:=V (QZ.out.mod.ext (iE (S':=fun i=> !rr a s3 i) M0 (fun i _ hp=>by have:=QZ.out.ord;subst hp;simp [rr];omega) (fun _ _ h=>h)));clear hj M0;by_cases q:js.length < m.ej.length;rotate_left
    ·have hjl:js.length=m.ej.length:=by omega
     go_wp2_with fail
     go_ret2
     obtain⟨o1,o2,o3,o4,o5,o6⟩:=QZ.out.ord;have h78:=HK.out.size;have Pn:X < w8.heap.size:=by omega
     have hFX:∀g,(rr a s3 g || decide (g=X) || rr w7.heap.size w8.heap.size g)=true↔(a <=g/\g < s3)\/g=X\/(w7.heap.size <=g/\g < w8.heap.size):=fun g=>by simp [rr,or_assoc]
     have hFS:∀g,(rr s4 w7.heap.size g&& !decide (g=X))=true↔(s4 <=g/\g < w7.heap.size)/\g≠X:=fun g=>by simp [rr]
     obtain⟨v,v',p1,p2,p3⟩:=QZ.out.space;have Qe:=QZ.out.xs;refine⟨QZ.out.below.trans (HK.out.below QZ.out.below.size (fun g hg=>by omega)), .inr (.inr ⟨X,fun g=>rr a s3 g || decide (g=X) || rr w7.heap.size w8.heap.size g,rr s3 s4,fun g=>rr s4 w7.heap.size g&& !decide (g=X),_,sp,HV.out,HEL.out,rfl,⟨HJ.out.kf,(hFX X).2 (.inr (.inl rfl)),HN8.out.ext (iE (P:=fun _=>False) (dU.refl _ _) (fun _ _ h=>h.elim) (fun g _ hg=>?_)),HJ.out.row.lower (bK _),fun g hg=>(hFX g).2 (.inr (.inr (et HJ.out.row hg))),fun i j c hj hc=>?_,hjl,fun g hg=>?_⟩,
      QZ.out.mem.keeps HK.out (fun g hg=>?_),⟨Xs,v,v',rfl,p1.keeps HK.out (by omega),(p2.lower (bK _)).keeps HK.out (fun g hg e=>dT.gA p2 QZ.out.kf (by decide) g hg e),(p3.lower (bK _)).keeps HK.out (fun g hg e=>dT.gA p3 QZ.out.kf (by decide) g hg e),(hFS Xs).2 ⟨⟨Qe.1,p1.lt⟩,by omega⟩,
       fun g hg=>(hFS g).2 ⟨et p2 hg,dT.gA p2 QZ.out.kf (by decide) g hg⟩,fun g hg=>(hFS g).2 ⟨et p3 hg,dT.gA p3 QZ.out.kf (by decide) g hg⟩⟩,fun g hg=>?_,fun g=>⟨fun h1=>⟨?_,?_⟩,fun h1=>?_⟩⟩)⟩
     ·cases hr:rr a s3 g with
      | false=>rfl
      | true=>simp [hr]at hg
     ·obtain⟨h1,h2⟩:=HJ.out.maps i j c hj hc
      exact⟨h1,(hFX j).2 (.inr (.inr ⟨h2,h1.lt⟩))⟩
     ·rcases(hFX g).1 hg with h1 | h1 | h1 <;>omega
     ·cases hr:rr s3 s4 g with
      | false=>rfl
      | true=>have:=kZ.1 hr;omega
     ·rcases hg with h1 | h1 | h1
      ·rcases(hFX g).1 h1 with h1 | h1 | h1 <;>omega
      ·have:=kZ.1 h1;omega
      ·have:=(hFS g).1 h1;omega
     ·cases hr:rr s3 s4 g with
      | false=>rfl
      | true=>have:=kZ.1 hr;rcases(hFX g).1 h1 with h1 | h1 | h1 <;>omega
     ·cases hr:(rr s4 w7.heap.size g&& !decide (g=X))with
      | false=>exact hr
      | true=>have:=(hFS g).1 hr;rcases(hFX g).1 h1 with h1 | h1 | h1 <;>omega
     ·have:=kZ.1 h1
      cases hr:(rr s4 w7.heap.size g&& !decide (g=X))with
      | false=>exact hr
      | true=>have:=(hFS g).1 hr;omega
    ·obtain⟨c,hc⟩:∃c,m.ej[js.length]?=some c:=⟨_,aq q⟩
     obtain⟨bc,OY,capc,⟨uc1,uc2⟩,LV,-,-,hbcl,KV,Li⟩:=ee.at HN8.out.2.2.2.2.2.2.1 hc;injection LV with e1 e2 e3;subst e1 e3;obtain⟨al,cl,hle,-,hclm⟩:=Li.1.1.sl;obtain⟨ab,cb,P2,-,hcbm⟩:=ee.slice Li.1.2;simp only at hle P2;have y0:w8.cell? ⟨bc,OY+js.length*2,none⟩=some (.slice al c.locals.length cl):=by
      have:=(gl (KV 0 _ rfl)).2;rw [<- hle]
      rwa [aL]at this
     have y1:w8.cell? ⟨bc,OY+js.length*2+1,none⟩=some (.slice ab c.body.length cb):=by
      rw [<- P2];exact(gl (KV 1 _ rfl)).2
     have Pw:=V (show gd w8 (.slice ab c.body.length cb) c.body by rw [<- P2];exact gd.fT Li.1.2);have HCC:=V hc;have HME:=V ((ME.out.1.1.2.2 c (aO hc)).1);have LY:=(an w8.heap.size w8).alloc (ag _) (.cells #[.slice al c.locals.length cl, .slice ab c.body.length cb] 69);have v1:=(eG.new w8 #[.slice al c.locals.length cl, .slice ab c.body.length cb] 69).two.2.1;have Lt:=V LY;have HRO:=HR;clear hc KV Li hle P2 e2 hbcl LY HR;go_wp2_with fail;clear y0 y1 v1;refine(pw _ c.body _ (Pw.out.below Lt.out)).mono ?_;rintro en w10 ⟨hb,⟨bs,vb,Pu,rfl,Lh⟩ | ⟨Pu,-⟩⟩;rotate_left
     ·have:=HME.out
      rw [Pu]at this;cases this
     obtain⟨av,cv,rfl,hcv1,hcvm⟩:=Lh.slice;have HMS:=V Pu;have HB10:=V (Lt.out.trans (hb.mono Lt.out.size));have hbm:=(an w10.heap.size w10).alloc (ag _) (.map #[] 0);have HBM:=V hbm;have HBO:=V (Lh.below hbm);have HJM:=V (fX.new w10);have Ox:=fun wx=>run_makeMap (P:=prog) 72 wx;have hvo:=V (fun g (hg:eA (.slice av bs.length cv) g)=>(et Lh hg).2);clear hb Lh hbm Pu Lt Pw;go_wp2_with fail;clear Ox;obtain⟨j,hj⟩:∃j,j=w10.heap.size:=⟨_,rfl⟩;have hj1:j < (w10.alloc (.map #[] 0)).heap.size:=by rw [aE];omega
     have HVO:=V (show∀g,eA (.slice av bs.length cv) g ->g < j from fun g hg=>by have:=hvo.out g hg;omega);have hj8:w8.heap.size <=j:=by have:=HB10.out.size;omega
     rw [<- hj]at HJM⊢;have HB11:=V (HB10.out.alloc HB10.out.size (.map #[] 0));clear hj hvo HBM HB10;generalize w10.alloc (.map #[] 0)=P5 at HBO HJM HB11 hj1⊢;refine eB (fun a' w'=>∃(i:Nat),a'=fr (gs a' 0 6 (.pointer (some ⟨X,0,none⟩)::gs a' 7 10 (.map (some j)::gs a' 18 97 (.slice (some ⟨bc,OY,none⟩) m.ej.length k6:: .int .i64 m.ej.length:: .int .i64 js.length::gs a' 118 10 (.slice av bs.length cv:: .int .i64 bs.length:: .int .i64 i::gs a' 131 20 [])))))/\i <=bs.length/\fX w' j (bs.take i)/\dU (fun g=>g=j) P5 w') (fun a' _=>(bs.length - (intOf (a'.tmps.getD 130 undef)).toNat)) ?_ ?_
     ·exact⟨0,rfl,bK _,HJM.out,dU.refl _ _⟩
     ·clear HJM
      rintro R a' w12 ⟨i,Kw,hJ⟩ HR;dsimp only [fr,gs]at Kw;generalize slot a'=f at Kw;subst Kw;obtain⟨hi,hjm,Qa⟩:=hJ;have HJM:=V hjm;have HK12:=V Qa;have HBO12:=V (HBO.out.keeps Qa (fun g hg e=>by have:=HVO.out g hg;omega));clear hjm Qa;by_cases q2:i < bs.length
      ·obtain⟨b,hb⟩:∃b,bs[i]?=some b:=⟨_,aq q2⟩
       obtain⟨bb,offb,capb,LV,hcap1,-,-,KV⟩:=eg.at (HBO12.out.fy jv) hb;injection LV with e1 e2 e3;subst e1 e3;have y0:=KV 0 _ rfl;have y1:=KV 1 _ rfl;have y2:=KV 2 _ rfl;rw [aL]at y0;have HBI:=V hb;have hbp:=yc HMS.out b (aO hb);have hkey:keyOf prog 3 (.int .i64 b.pos)=some (.int .i64 b.pos):=Maps.keyOf_int_mk If (WalkArith.wf_i64 (by omega));have HKEY:=V hkey;have MM:=(an w12.heap.size w12).alloc (ag _) (.cells (wg b).toArray 107);have QU:=V MM;obtain⟨n,hn,Ku⟩:=HJM.out.below MM;have OV:=V Ku;have HNN:=V hn;have hnm:n < maxLen:=by rw [List.length_take]at hn;unfold maxLen;omega
       have HNM:=V hnm;clear hb KV e2 hkey MM hn Ku hnm hcap1 hbp;go_wp2_with (first | (at_mapUpdate;refine wpList_mapUpdate_own _ rfl _ _ _ 72 rfl 3 107 (Maps.int_keyed If) IX BT j n (zS (bs.take i)) rfl OV.out HNM.out _ _ (.int .i64 b.pos) rfl rfl HKEY.out (Gv b) [] rfl ?_));intro w13 hown13 O2;have HJ13:=V (show fX w13 j (bs.take (i+1))from⟨n+1,by have:=HNN.out;rw [aS]at this⊢;omega,by rw [aQ,HBI.out,Option.toList_some,A8];exact hown13⟩);have HK13:=V ((HK12.out.trans (dU.dW (S:=fun _=>False) QU.out) (fun _ h=>h.elim)).trans (y8 O2) (fun _ h=> .inl h));clear hown13 O2 y0 y1 y2 OV HNM HKEY;go_wp2_with fail;refine HR.out _ _ ⟨i+1,rfl,by omega,HJ13.out,HK13.out⟩ ?_;simp [intOf];omega
      ·obtain rfl:i=bs.length:=by omega
       rw [aU]at HJM;obtain⟨aj,cj,hvj,-,hcjm⟩:=HJ.out.row.slice;subst hvj;have hX12:=(HJ.out.kf.below HB11.out HJ.out.kf.lt).keeps HK12.out (by have:=HJ.out.kf.lt;omega);have x16:w12.cell? ⟨X,16,none⟩=some (.slice aj js.length cj):=hX12.cell 16;have Qp:=V (show dT 72 1 zc w12 w7.heap.size (.slice aj js.length cj) js from(HJ.out.row.below HB11.out).keeps HK12.out (fun g hg e=>by have:=(et HJ.out.row hg).2;omega));have HX12:=V hX12;have hsz7:w7.heap.size <=w12.heap.size:=by have:=HK.out.size;have:=HB11.out.size;have:=HK12.out.size;omega
       clear hX12 HR q2;go_wp2_with (first | (at_builtin;refine eT w12 rfl _ _ 91 rfl _ 8 (by kernel_rfl) Ct rfl (by decide) (by decide) w7.heap.size (.slice aj js.length cj) js rfl Qp.out j _ rfl rfl (Fg _) rfl (by omega) hsz7 ?_));intro v14 w14 ho hk14 hs14;obtain⟨a2,c2,hv14,-,-⟩:=ho.slice;rw [ah,aB]at hv14;subst hv14;have hX14:=HX12.out.keeps hk14 (fun hg=>dT.gA Qp.out HX12.out (by decide) X hg rfl);have x16:w14.cell? ⟨X,16,none⟩=some (.slice aj js.length cj):=hX14.cell 16;have z16:=hX14.free 16;have HM:=V (vQ.more (c:=c) HJ.out HB11.out hj8 HK12.out HCC.out (show fX w12 j (nX c)by unfold nX;rw [HMS.out];exact HJM.out) (by have:=HK.out.size;omega) ho hk14);have Ph:=V ((((HK.out.trans (dU.dW (S:=fun _=>False) HB11.out) (fun _ h=>h.elim)).trans HK12.out (fun g hg=> .inr (by have:=HK.out.size;omega))).trans hk14 (fun g hg=> .inr (et Qp.out hg).1)).trans (eu w14 X 16 (.slice a2 (js.length+1) c2)) (fun g hg=> .inl hg));clear hX14 ho hk14 hs14;go_wp2_with fail;refine HRO.out _ _ ⟨js.length+1,_,js++[j],rfl,⟨by omega,by simp⟩,HM.out,Ph.out⟩ ?_;simp [intOf];omega
def rF:ez:=⟨[],[],[0],⟨false,0,0⟩,⟨false,0,0⟩,[],[],[],[],[]⟩
theorem AB:(fg 0 gX).may:=by decide
theorem AM:8 < (fB (fg 0 gX)).length:=by decide
theorem DV:m0.may/\(fB m0).length=8:=by decide
theorem Ft:¬ rF.may:=by decide
theorem Jp:qv [120]=none:=by decide
theorem Aa:fQ (fg 0 gX) 0=true/\fQ (fg 0 (gX.take 2)) 0=false/\fQ (fg 0 [⟨0,0,0,[]⟩,⟨106,0,0,[]⟩]) 0=true/\fQ (fg 0 gX) 1=false:=by decide
theorem oQ:iA (fg 0 gX)= -1/\iA (fg 1 gX)=7/\iA rF=0:=by decide
theorem z6:iA (eQ [])= -1:=by decide
theorem xS:∀(f:Nat) (n:Int),(iB f n).length <=f
 | 0,_=>by simp [iB]
 | f+1,n=>by
  unfold iB;split
  ·simp
  ·have:=xS f (n/128)
   simp only [aI];omega
theorem F9 (n:Int):(ie n).length <=10:=xS 10 n
theorem De (x:eK) (h:x.l=[]):(ik x).length <=21:=by
 have h1:=eF x.a.toNat;have h2:=eF x.b.toNat;have h3:=F9 x.a;have h4:=eF 0;unfold ik gh;rw [h];split <;>simp only [aI,ah,aK,cS,List.flatten_nil] <;>omega
theorem yz:∀(l:List eK),(∀x∈l,x.l=[]) ->(mI l).length <=21*l.length+1
 | [],_=>by simp [mI]
 | x::l,h=>by
  have h1:=De x (h x (by simp));have h2:=yz l (fun y hy=>h y (by simp [hy]));unfold mI at h2⊢;simp only [bA,bS,ah,aI,aK]at h2⊢;omega
theorem z7 (body:List eK):(fB (eQ body)).length <=(mI body).length+500:=by
 unfold fB ph;have h1:(fE 1 kI (eQ body).types).length <=40:=by show(fE 1 kI (eQ []).types).length <=40;decide
 have h2:(fE 2 nA (eQ body).imports).length <=40:=by show(fE 2 nA (eQ []).imports).length <=40;decide
 have h3:(fE 3 rS (eQ body).funcs).length <=40:=by show(fE 3 rS (eQ []).funcs).length <=40;decide
 have h4:(fE 4 jj (oneOf (eQ body).table)).length <=40:=by show(fE 4 jj (oneOf (eQ []).table)).length <=40;decide
 have h5:(fE 5 gE (oneOf (eQ body).mem)).length <=40:=by show(fE 5 gE (oneOf (eQ []).mem)).length <=40;decide
 have h6:(fE 6 kE (eQ body).globals).length <=40:=by show(fE 6 kE (eQ []).globals).length <=40;decide
 have h7:(fE 7 nR (eQ body).ea).length <=40:=by show(fE 7 nR (eQ []).ea).length <=40;decide
 have h8:(fE 9 kT (eQ body).elems).length <=40:=by show(fE 9 kT (eQ []).elems).length <=40;decide
 have h9:(fE 11 nP (eQ body).eC).length=0:=rfl;have h0:fA.length=8:=rfl;have ha:(fE 10 ir (eQ body).ej).length=1+((eP (eU ir (eQ body).ej).length).length+((eP 2).length+((ir ⟨[],body⟩).length+(ir ⟨[],[⟨32,0,0,[]⟩]⟩).length))):=by
  show(10::(eP (eU ir (eQ body).ej).length++(eP 2++(ir ⟨[],body⟩++(ir ⟨[],[⟨32,0,0,[]⟩]⟩++[]))))).length=_;simp only [aI,ah,aK];omega
 have hb:=eF (eU ir (eQ body).ej).length;have hc:=eF 2;have hd:(ir ⟨[],body⟩).length=(eP (lY ⟨[],body⟩).length).length+((kn []).length+(mI body).length):=by
  unfold ir lY;simp only [ah]
 have he:=eF (lY ⟨[],body⟩).length;have hf:(kn []).length=1:=by decide
 have hg:(ir ⟨[],[⟨32,0,0,[]⟩]⟩).length <=20:=by decide
 simp only [ah];omega
theorem FA (body:List eK) (hk:gF.may ⟨[],body⟩) (hl:∀x∈body,x.l=[]):(eQ body).may:=by
 have h0:(eQ []).may:=by decide
 obtain⟨⟨⟨h1,h2,h3⟩,h4,h5,h6⟩,-⟩:=h0;refine⟨⟨⟨h1,h2,fun x hx=>?_⟩,h4,h5,h6⟩,?_⟩
 ·simp only [eQ,bB,bJ,cM]at hx
  rcases hx with rfl | rfl
  ·exact hk
  ·exact h3 _ (by simp [eQ])
 ·have:=z7 body
  have:=yz body hl;have:=hk.2.2.1;simp only at this;omega
theorem vr (body:List eK) (hk:gF.may ⟨[],body⟩) (hl:∀x∈body,x.l=[]) (hf:fQ (eQ body) 0=true):iA (eQ body)= -1:=by
 have a1:((eQ body).imports.any fun x=>lD (eQ body) x.type)=false:=rfl;have a2:((eQ body).funcs.any fun t=>lD (eQ body) t)=false:=rfl;have a3:kK (eQ body).table=false:=rfl;have a4:kK (eQ body).mem=false:=rfl;have a5:xx (eQ body)=false:=rfl;have a6:(eQ body).table.has=true:=rfl;have a7:yH (eQ body)=false:=rfl;have a8:fQ (eQ body) 1=true:=rfl;have a9:jr (eQ body) (eQ body).ej.length=true:=by
  show((true&&fQ (eQ body) 0)&&fQ (eQ body) 1)=true;rw [hf,a8];rfl
 have a10:(eQ body).eC.length=0:=rfl;unfold iA;rw [aA (FA body hk hl),a1,a2,a3,a4,a5,a6,a7,a9,a10];simp
theorem qU (b:List eK):∀(l:List eK) (i:Nat),(∀x∈l,¬ (x.op=2\/x.op=3\/x.op=4\/x.op=5\/x.op=11)) ->gx b l i ([],[])=some ([],[])
 | [],_,_=>rfl
 | x::l,i,h=>by
  have hx:=h x (by simp);have h1:jS x.op=false:=by
   unfold jS;simp only [dq,dG];omega
  unfold gx gf;rw [aC (by simp [h1]),aJ (by omega)];exact qU b l (i+1) (fun y hy=>h y (by simp [hy]))
theorem wZ (l:List eK) (hl:l.length <=300) (h:∀x∈l,¬ (x.op=2\/x.op=3\/x.op=4\/x.op=5\/x.op=11)):fC l=some []:=by
 unfold fC;rw [aC (by omega),qU l l 0 h];rfl
theorem CF (body:List eK) (c:eI) (hm:(fC body).isSome=true) (hr:eI.run (eQ body) [] ⟨[],[⟨2,0,0,false⟩],false⟩ body=some c) (hc:c.shut.2.bad=false):fQ (eQ body) 0=true:=by
 unfold fQ;rw [aC (show ¬ ((0:Int) < 0\/((eQ body).ej.length:Int) <=0\/((eQ body).funcs.length:Int) <=0)from by show ¬ ((0:Int) < 0\/(2:Int) <=0\/(2:Int) <=0);decide)];show(if true=false\/(fC body).isSome=false then false else match eI.run (eQ body) [] ⟨[],[⟨2,0,0,false⟩],false⟩ body with
  | none=>false
  | some c=> !c.shut.2.bad&&decide (([]:List Int).length <=32))=true
 rw [hm,hr];simp [hc]
def iR (a:Int):eK:=⟨65,a,0,[]⟩
theorem Ch (m:ez) (c:eI) (hc:c.bad=false) (a:Int) (rest:List eK):eI.run m [] c (iR a::rest)=eI.run m [] (c.push [1]) rest:=by
 have h:c.step m [] (iR a)=c.push [1]:=rfl;show(if(c.step m [] (iR a)).bad=true then none else eI.run m [] (c.step m [] (iR a)) rest)=_;rw [h,aC (by show ¬ c.bad=true;simp [hc])]
theorem uq (m:ez):∀(l:List Int) (c:eI) (_:c.bad=false) (rest:List eK),eI.run m [] c (l.map iR++rest)=eI.run m [] (c.push (l.map fun _=>1)) rest
 | [],c,_,rest=>by
  show _=eI.run m [] {c with dZ:=c.dZ++[]} rest;rw [bO];rfl
 | a::l,c,hc,rest=>by
  rw [bA,bI,Ch m c hc,uq m l (c.push [1]) hc rest]
  congr 1
  simp [eI.push]
def Cc (X b o g k J:Nat):Array Value:=#[.pointer (some ⟨X,0,none⟩), .pointer (some ⟨b,o,none⟩), .pointer (some ⟨g,k,none⟩), .map (some J)]
def jT (w:World) (D X b o g k J:Nat):Prop:=eG w D (Cc X b o g k J) 74
theorem jT.not {w:World} {D X b o g k J:Nat} {pre post:List Value} {t:TypeId} {v:qD} {s:gL} (h:jT w D X b o g k J) (hs:fW w b pre post t v s):¬ v.own b D:=
 hs.not h (fun e=>by subst e;exact hs.ty.2.2.2 (hs.kf.uniq h)) (by decide)
theorem jT.keeps {P:Nat ->Prop} {w w':World} {D X b o g k J:Nat} (h:jT w D X b o g k J) (hk:dU P w w') (hP:¬ P D):jT w' D X b o g k J:=eG.keeps h hk hP
theorem jT.below {w w':World} {D X b o g k J:Nat} (h:jT w D X b o g k J) (hk:Below w.heap.size w w'):jT w' D X b o g k J:=eG.below h hk h.lt
theorem jT.drew {w:World} {D X b o g k J:Nat} (h:jT w D X b o g k J):jT w.drew D X b o g k J:=eG.drew h
theorem jT.alloc {w:World} {D X b o g k J:Nat} (h:jT w D X b o g k J) (ob:Obj):jT (w.alloc ob) D X b o g k J:=eG.alloc h ob
theorem jT.d0 {w:World} {D X b o g k J:Nat} (h:jT w D X b o g k J):w.cell? ⟨D,0,none⟩=some (.pointer (some ⟨X,0,none⟩)):=eG.cell h 0
theorem jT.d1 {w:World} {D X b o g k J:Nat} (h:jT w D X b o g k J):w.cell? ⟨D,1,none⟩=some (.pointer (some ⟨b,o,none⟩)):=eG.cell h 1
theorem jT.d2 {w:World} {D X b o g k J:Nat} (h:jT w D X b o g k J):w.cell? ⟨D,2,none⟩=some (.pointer (some ⟨g,k,none⟩)):=eG.cell h 2
def fR (b:Nat) (pre post:List Value) (t:TypeId) (v:qD) (r:iV × gL) (w:World) (e:Ending) (w':World):Prop:=
 ∃v' vv,e= .returned (nd r.1 vv)/\fW w' b pre post t v' r.2/\kU v v' b w w'/\dT 42 2 gb w' w.heap.size vv r.1.dZ/\∀g,eA vv g ->¬ v'.own b g
def ll (w:World) (X:Nat) (a b c:Int) (v:Value):World:=(((w.setCell ⟨X,0,none⟩ (.int .i64 a)).setCell ⟨X,1,none⟩ (.int .i64 b)).setCell ⟨X,2,none⟩ (.int .i64 c)).setCell ⟨X,3,none⟩ v
theorem gy (w:World) (X:Nat) (a b c:Int) (v:Value):dU (fun i=>i=X) w (ll w X a b c v):=
 (((eu w X 0 _).trans (eu _ X 1 _) (fun _ h=> .inl h)).trans (eu _ X 2 _) (fun _ h=> .inl h)).trans (eu _ X 3 _) (fun _ h=> .inl h)
theorem nM {w w2:World} {xs:Array Value} (hx:eG w2 w.heap.size xs 32) (hs:xs.size=4) (a b c:Int) (v:Value):
  (loadVar 32 ⟨w.heap.size,0,none⟩).run prog (ll w2 w.heap.size a b c v)= .ok (.agg #[.int .i64 a, .int .i64 b, .int .i64 c,v]) (ll w2 w.heap.size a b c v):=by
 obtain⟨x0,x1,x2,x3,rfl⟩:∃x0 x1 x2 x3,xs=#[x0,x1,x2,x3]:=by
  match xs,hs with
  | ⟨[x0,x1,x2,x3]⟩,_=>exact⟨x0,x1,x2,x3,rfl⟩
 exact(hx.ry _ _ _ _).pF
theorem fR.mk {w w2:World} {b:Nat} {pre post:List Value} {t:TypeId} {v v':qD} {r:iV × gL} {o:iV} {s:gL} {vv:Value} (he:r=(o,s)) (hs:fW w2 b pre post t v' s) (ht:kU v v' b w w2) (hn:¬ v'.own b w.heap.size)
  (hv:dT 42 2 gb w2 w.heap.size vv o.dZ) (NO:∀g,eA vv g ->¬ v'.own b g) (Mf:¬ eA vv w.heap.size) (a1 a2 a3:Int) (h1:o.kind=a1) (h2:o.oX=a2) (h3:o.fn=a3):
  fR b pre post t v r w (.returned (.agg #[.int .i64 a1, .int .i64 a2, .int .i64 a3,vv])) (ll w2 w.heap.size a1 a2 a3 vv):=by
 subst he h1 h2 h3;have Kz:=gy w2 w.heap.size o.kind o.oX o.fn vv;exact⟨v',vv,rfl,hs.keeps Kz (fun g hg e=>hn (e▸hg)),⟨ht.1.trans Kz (fun i hi=> .inr (by omega)),ht.2⟩,hv.keeps Kz (fun g hg e=>Mf (e▸hg)),NO⟩
def jo (l1 puts:List fa) (s:gL) (lo:List eV) (f:eV):iV × gL:=
 if 1000 < l1.length+puts.length then(.full,s)else(.more,⟨l1++puts,lo++[{f with pc:=f.pc+1}],s.asks⟩)
theorem fW.xp {w:World} {b:Nat} {pre post:List Value} {t:TypeId} {v:qD} {s:gL} (h:fW w b pre post t v s):¬ v.own b w.heap.size:=fun hg=>by have:=h.lt hg;omega
theorem pg (w:World) (D X b g J cap:Nat) (pre post:List Value) (t:TypeId) (uv:Value) (us:List (Value × Value)) (u:Value × Value) (l1 l2 puts:List fa) (lo:List eV) (f:eV) (asks:Int) (pv:Value) (kz:Int) (hkz:kz=l2.length)
  (KS:fW w b pre post t ⟨uv, .slice (some ⟨g,0,none⟩) (lo.length+1) cap,us++[u]⟩ ⟨l1++l2,lo++[f],asks⟩) (hd:jT w D X b pre.length g (lo.length*5) J) (hp:eg 2 gb w pv puts)
  (hn:l1.length+puts.length <=100000) (NM: -1 <=f.pc/\f.pc <=1000000):
  Calls prog 19 #[.pointer (some ⟨D,0,none⟩), .int .i64 kz,pv] w (fR b pre post t ⟨uv, .slice (some ⟨g,0,none⟩) (lo.length+1) cap,us++[u]⟩ (jo l1 puts ⟨l1++l2,lo++[f],asks⟩ lo f) w):=by
 subst hkz;obtain⟨av,cv,Qu,LC,My⟩:=KS.dZ.slice;simp only [ah]at Qu LC;subst Qu;obtain⟨ap,cp,rfl,-,hcpm,-⟩:=id hp;unfold maxLen at hcpm;have KW:=(an w.heap.size w).alloc (ag _) (.cells #[.int .i64 0, .int .i64 0, .int .i64 0, .slice none 0 0] 32);have HX:=V (eG.new w #[.int .i64 0, .int .i64 0, .int .i64 0, .slice none 0 0] 32);have PV:=V KS;have Ky:=V (KS.below KW);have HD:=V (hd.below KW);have HP:=V (hp.below KW);have HT:=V (kU.dW (v:=⟨.slice av (l1.length+l2.length) cv, .slice (some ⟨g,0,none⟩) (lo.length+1) cap,us++[u]⟩) (b:=b) KW);have d1:=HD.out.d1;have c0:World.cell? _ ⟨b,pre.length,none⟩=some (.slice av (l1.length+l2.length) cv):=Ky.out.c0;clear KS hd hp KW;by_cases q:1000 < l1.length+puts.length
 ·have f1:decide ((1000:Int) < (l1.length:Int)+(puts.length:Int))=true:=aA (by omega)
  have f2:decide (1000 < l1.length+puts.length)=true:=aA q;have HR:=V (show jo l1 puts ⟨l1++l2,lo++[f],asks⟩ lo f=(.full,⟨l1++l2,lo++[f],asks⟩)by unfold jo;rw [if_pos q]);clear q;go_enter func19,ntmps19;go_wp2_with fail;refine(yU _).mono ?_;rintro e w2 ⟨rfl,hb⟩;replace HX:=V (HX.out.below hb HX.out.lt);replace Ky:=V (Ky.out.below hb);replace HT:=V (HT.out.below hb);clear hb d1 c0;obtain⟨⟨x0,x1,x2,x3⟩,z0,z1,z2,z3⟩:=HX.out.four;go_wp2_with fail;refine aM (ey rfl _ _ rfl (nM HX.out rfl 5 0 0 (.slice none 0 0))) rfl ?_;exact fR.mk HR.out Ky.out HT.out PV.out.xp (dT.nil _ _) (fun g hg=>by simp [eA,Value.ownBlock]at hg) (by simp [eA,Value.ownBlock]) 5 0 0 rfl rfl rfl
 ·have f1:decide ((1000:Int) < (l1.length:Int)+(puts.length:Int))=false:=az (by omega)
  have f2:decide (1000 < l1.length+puts.length)=false:=az q;have HR:=V (show jo l1 puts ⟨l1++l2,lo++[f],asks⟩ lo f=(.more,⟨l1++puts,lo++[{f with pc:=f.pc+1}],asks⟩)by unfold jo;rw [if_neg q]);clear q;have LZ:=fun wx=>uc av (l1.length+l2.length) cv l1.length (by omega) wx;go_enter func19,ntmps19;go_wp2_with fail;refine eO (fun w'=>w'.cell? ⟨D,1,none⟩=some (.pointer (some ⟨b,pre.length,none⟩))/\w'.cell? ⟨b,pre.length,none⟩=some (.slice av (l1.length+l2.length) cv)) 17 (up 0 14 ((14,false)::(15,true)::(16,true)::[])) (by kernel_rfl) (by kernel_rfl) ⟨d1,c0⟩ ?_;replace HX:=V HX.out.drew;replace Ky:=V Ky.out.drew;replace HD:=V HD.out.drew;replace HP:=V (HP.out.below (an _ _).drew);replace HT:=V HT.out.drew;clear d1 c0;generalize(w.alloc (.cells #[.int .i64 0, .int .i64 0, .int .i64 0, .slice none 0 0] 32)).drew=w1 at HX Ky HD HP HT⊢;iterate 14 (first | (apply sk rfl rfl;simp only [pt]) | (apply dV rfl rfl rfl;·(rintro w' ⟨t0,t1⟩;go_wp2;exact⟨rfl,rfl,rfl⟩)))
  refine ed rfl rfl ?_;clear LZ;have HC:=V (show dT 42 2 gb w1 0 (.slice av l1.length cv) l1 by
   have h:=dT.take fK Ky.out.dZ l1.length (by simp)
   rwa [dk rfl]at h)
  go_wp2_with (first | (at_builtin;refine rm w1 rfl _ _ 30 rfl _ 16 (by kernel_rfl) kb rfl (by decide) (by decide) 0 (.slice av l1.length cv) l1 rfl HC.out fK _ puts rfl HP.out (fun y _=>lT y) (by omega) (bK _) ?_));intro v2 w2 ho hk hs;obtain⟨a2,c2,Mf,-,-⟩:=ho.slice;rw [ah]at Mf;subst Mf;replace hk:dU (eA (.slice av (l1.length+l2.length) cv)) w1 w2:=hk.mono (fun i hi=>(dT.same i).1 hi);replace hs:eE w1 (.slice av (l1.length+l2.length) cv) (.slice a2 (l1.length+puts.length) c2):=fun i hi=>(hs i hi).imp (fun h=>(dT.same i).1 h) id;have KP:=Ky.out.DL hk;obtain⟨K4,HT2⟩:=Ky.out.sI ho hk hs;have hDn:=HD.out.not Ky.out;have Pn:¬ eA (.slice av (l1.length+l2.length) cv) w.heap.size:=fun hg=>dT.gA Ky.out.dZ HX.out (by decide) _ hg rfl;have Om:=HD.out.keeps hk (fun hg=>hDn (.inr (.inl hg)));have KI:=V (HX.out.keeps hk Pn);have c0:w2.cell? ⟨b,pre.length,none⟩=some (.slice av (l1.length+l2.length) cv):=(KP.1.cell _).trans (rq _ _ _ _);have z0:=KP.1.free pre.length;have d1:=Om.d1;have HSS:=V K4;have HTT:=V (HT.out.trans HT2);have Qv:=V (Om.keeps (eu w2 b pre.length (.slice a2 (l1.length+puts.length) c2)) (fun e=>hDn (.inl e)));have QX:=V (KI.out.keeps (eu w2 b pre.length (.slice a2 (l1.length+puts.length) c2)) (fun e=>PV.out.xp (.inl e)));clear KP K4 HT2 hDn Pn Om KI hk hs ho HC HX HT Ky HP HD;go_wp2_with fail;refine⟨⟨d1,c0⟩,?_⟩;iterate 2 (first | (apply sk rfl rfl;simp only [pt]) | (apply dV rfl rfl rfl;·(rintro w' ⟨t0,t1⟩;go_wp2;exact⟨rfl,rfl,rfl⟩)))
  refine fG rfl rfl ?_;go_wp2_with fail;refine⟨trivial,?_⟩;refine aD ?_;clear d1 c0 z0;generalize w2.setCell ⟨b,pre.length,none⟩ (.slice a2 (l1.length+puts.length) c2)=w3 at HSS HTT Qv QX⊢;obtain⟨⟨-,p1,-,-,-⟩,-,-,zg,-,-⟩:=HSS.out.cells;have z1:=zg (lo.length*5+1);have d2:=Qv.out.d2;have hp1: -1 <=f.pc:=NM.1;have Pt:f.pc <=1000000:=NM.2;have HNP:=V (HSS.out.Fw {f with pc:=f.pc+1} 1 (x:= .int .i64 (f.pc+1)) (by decide) rfl rfl rfl);have QX:=V (QX.out.keeps (eu w3 g (lo.length*5+1) (.int .i64 (f.pc+1))) (fun e=>PV.out.xp (.inr (.inr (.inl (by rw [e];simp [eA,Value.ownBlock]))))));clear zg NM;go_wp2_with fail;clear p1 z1 d2;generalize w3.setCell ⟨g,lo.length*5+1,none⟩ (.int .i64 (f.pc+1))=w4 at HNP QX⊢;refine(uM _).mono ?_;rintro e w5 ⟨rfl,hb⟩;replace HX:=V (QX.out.below hb QX.out.lt);have Ky:=V (HNP.out.1.below hb);have HT:=V ((HTT.out.trans HNP.out.2).below hb);clear hb QX HNP HTT;obtain⟨⟨x0,x1,x2,x3⟩,z0,z1,z2,z3⟩:=HX.out.four;go_wp2_with fail;refine aM (ey rfl _ _ rfl (nM HX.out rfl 1 0 0 (.slice none 0 0))) rfl ?_;have Lm:=PV.out.kf.lt;exact fR.mk HR.out Ky.out HT.out (Ky.out.not HX.out (by omega) (by decide)) (dT.nil _ _) (fun g hg=>by simp [eA,Value.ownBlock]at hg) (by simp [eA,Value.ownBlock]) 1 0 0 rfl rfl rfl
def ka (l1 l2:List fa) (res:Bool):List fa:=if res=true then l1++(l1++l2).getLast?.toList else l1
def Gc (b:Nat) (pre post:List Value) (t:TypeId) (uv uf:Value) (us:List (Value × Value)) (PU:List fa) (s:gL) (w:World) (e:Ending) (w':World):Prop:=
 ∃uv',e= .returned (.tuple #[])/\fW w' b pre post t ⟨uv',uf,us⟩ {s with dZ:=PU}/\kU ⟨uv,uf,us⟩ ⟨uv',uf,us⟩ b w w'
theorem Fh (w:World) (D X b g k J:Nat) (pre post:List Value) (t:TypeId) (uv uf:Value) (us:List (Value × Value)) (l1 l2:List fa) (eh:List eV) (asks:Int) (hz:Int) (hhz:hz=l1.length) (res:Bool) (Lc:res=true ->l1++l2≠[])
  (KS:fW w b pre post t ⟨uv,uf,us⟩ ⟨l1++l2,eh,asks⟩) (hd:jT w D X b pre.length g k J) (hn:l1.length+l2.length <=100000):
  Calls prog 55 #[.pointer (some ⟨D,0,none⟩), .int .i64 hz, .bool res] w (Gc b pre post t uv uf us (ka l1 l2 res) ⟨l1++l2,eh,asks⟩ w):=by
 subst hhz;obtain⟨av,cv,Qu,LC,My⟩:=KS.dZ.slice;simp only [ah]at Qu LC;subst Qu;have KW:=(an w.heap.size w).drew;have Ky:=V KS.drew;have HD:=V hd.drew;have HT:=V (kU.dW (v:=⟨.slice av (l1.length+l2.length) cv,uf,us⟩) (b:=b) KW);have d1:=HD.out.d1;have c0:World.cell? _ ⟨b,pre.length,none⟩=some (.slice av (l1.length+l2.length) cv):=Ky.out.c0;have LZ:=fun wx=>uc av (l1.length+l2.length) cv l1.length (by omega) wx;have HC:=V (show dT 42 2 gb w.drew 0 (.slice av l1.length cv) l1 by
   have h:=dT.take fK Ky.out.dZ l1.length (by simp)
   rwa [dk rfl]at h)
 clear KS hd KW;cases res
 ·clear Lc
  go_enter func55,ntmps55;go_wp2_with fail;refine eO (fun w'=>w'.cell? ⟨D,1,none⟩=some (.pointer (some ⟨b,pre.length,none⟩))/\w'.cell? ⟨b,pre.length,none⟩=some (.slice av (l1.length+l2.length) cv)) 15 (up 0 15 []) (by kernel_rfl) (by kernel_rfl) ⟨d1,c0⟩ ?_;clear d1 c0;generalize w.drew=w1 at Ky HD HT HC⊢;iterate 15 (first | (apply sk rfl rfl;simp only [pt]) | (apply dV rfl rfl rfl;·(rintro w' ⟨t0,t1⟩;go_wp2;exact⟨rfl,rfl,rfl⟩)))
  refine fG rfl rfl ?_;have c0:w1.cell? ⟨b,pre.length,none⟩=some (.slice av (l1.length+l2.length) cv):=Ky.out.c0;have z0:=Ky.out.kf.free pre.length;go_wp2_with fail;refine⟨trivial,?_⟩;refine aD ?_;go_wp2_with fail
  go_end0
  obtain⟨h1,h2⟩:=Ky.out.sI HC.out (dU.refl _ _) (fun i hi=> .inl ((dT.same i).1 hi));exact⟨_,rfl,h1,HT.out.trans h2⟩
 ·obtain⟨l,x,hlx⟩:=qG (Lc rfl)
  have HL:=V hlx;have HK:Hid (ka l1 l2 true=l1++[x]):=V (by unfold ka;rw [if_pos rfl,hlx];simp);clear Lc hlx;go_enter func55,ntmps55;go_wp2_with fail;refine eO (fun w'=>w'.cell? ⟨D,1,none⟩=some (.pointer (some ⟨b,pre.length,none⟩))/\w'.cell? ⟨b,pre.length,none⟩=some (.slice av (l1.length+l2.length) cv)) 19 (up 0 14 ((14,false)::(15,false)::(16,false)::(17,true)::(18,true)::[])) (by kernel_rfl) (by kernel_rfl) ⟨d1,c0⟩ ?_;clear d1 c0;generalize w.drew=w1 at Ky HD HT HC⊢;iterate 14 (first | (apply sk rfl rfl;simp only [pt]) | (apply dV rfl rfl rfl;·(rintro w' ⟨t0,t1⟩;go_wp2;exact⟨rfl,rfl,rfl⟩)))
  clear LZ;refine ed rfl rfl ?_;go_wp2_with fail;refine(xX w1 D b pre.length 0 (.slice av (l1.length+l2.length) cv) l x HD.out.d1 Ky.out.c0 (by rw [<- HL.out];exact Ky.out.dZ)).mono ?_;rintro e w2 ⟨rfl,hb⟩;replace Ky:=V (Ky.out.below hb);replace HD:=V (HD.out.below hb);replace HT:=V (HT.out.below hb);replace HC:=V (HC.out.below hb);clear hb;go_wp2_with fail;refine⟨⟨HD.out.d1,Ky.out.c0⟩,?_⟩;refine ed rfl rfl ?_;go_wp2_with fail;refine⟨⟨(HD.out.alloc _).d1,(Ky.out.alloc _).c0⟩,?_⟩;refine ed rfl rfl ?_;go_wp2_with (first | (at_builtin;refine eT w2 rfl _ _ 30 rfl _ 16 (by kernel_rfl) kb rfl (by decide) (by decide) 0 (.slice av l1.length cv) l1 rfl HC.out (⟨x.kind,x.n⟩:fa) _ rfl rfl (lT _) rfl (by omega) (bK _) ?_));intro v2 w3 ho hk hs;obtain⟨a2,c2,Mf,-,-⟩:=ho.slice;have e2:(l1++[(⟨x.kind,x.n⟩:fa)]).length=l1.length+1:=by simp
  rw [e2]at Mf;subst Mf;replace hk:dU (eA (.slice av (l1.length+l2.length) cv)) w2 w3:=hk.mono (fun i hi=>(dT.same i).1 hi);replace hs:eE w2 (.slice av (l1.length+l2.length) cv) (.slice a2 (l1.length+1) c2):=fun i hi=>(hs i hi).imp (fun h=>(dT.same i).1 h) id;have KP:=Ky.out.DL hk;have HP:=V (Ky.out.sI ho hk hs);have d1:=(HD.out.keeps hk (fun hg=>HD.out.not Ky.out (.inr (.inl hg)))).d1;have c0:w3.cell? ⟨b,pre.length,none⟩=some (.slice av (l1.length+l2.length) cv):=(KP.1.cell _).trans (rq _ _ _ _);have z0:=KP.1.free pre.length;clear KP hk hs ho e2;go_wp2_with fail;refine⟨⟨d1,c0⟩,?_⟩;iterate 2 (first | (apply sk rfl rfl;simp only [pt]) | (apply dV rfl rfl rfl;·(rintro w' ⟨t0,t1⟩;go_wp2;exact⟨rfl,rfl,rfl⟩)))
  refine fG rfl rfl ?_;go_wp2_with fail;refine⟨trivial,?_⟩;refine aD ?_;go_wp2_with fail
  go_end0
  rw [HK.out];exact⟨_,rfl,HP.out.1,HT.out.trans HP.out.2⟩
def lW (m:ez) (f:Int) (t:gr):Prop:=
 (∃(i ti:Nat) (x:jh),m.imports[i]?=some x/\x.type=(ti:Int)/\m.types[ti]?=some t/\f=(i:Int))\/∃i ti:Nat,m.funcs[i]?=some (ti:Int)/\m.types[ti]?=some t/\f=((m.imports.length+i:Nat):Int)
theorem oO (w:World) (FX:Nat ->Bool) (X:Nat) (iv:pG) (m:ez) (h:jg w FX X iv m) (t:gr) (f:Int) (hf:lW m f t) (hk:m.imports.length+m.funcs.length <=100000):
  Calls prog 41 #[.pointer (some ⟨X,0,none⟩), .int .i64 f] w (AJ FX t w):=by
 rcases hf with⟨i,ti,x,h1,h2,h3,h4⟩ | ⟨i,ti,h1,h2,h3⟩
 ·exact D1 w FX X iv m h i ti x t h1 h2 h3 f h4 hk
 ·exact FK w FX X iv m h i ti t h1 h2 f h3 hk
def qI (vs:List fa) (lo:List eV) (asks:Int):iV × gL:=if 0 < lo.length then(.more,⟨vs,lo,asks⟩)else(⟨3,0,0,vs⟩,⟨vs,lo,asks⟩)
def Jd (T:Nat) (t:gr) (w0 w:World):Prop:=∃ap cp ar cr,eG w T #[.slice ap t.params.length cp, .slice ar t.results.length cr] 109/\cr <=9223372036854775807/\Below w0.heap.size w0 w/\w0.heap.size <=T
theorem CD (l1 l2:List fa) (res:Bool) (h:l1.length+l2.length <=50000):(ka l1 l2 res).length <=1000000:=by
 unfold ka;split
 ·rw [ah]
  have:(l1++l2).getLast?.toList.length <=1:=by cases(l1++l2).getLast? <;>simp
  omega
 ·omega
theorem DH (w:World) (FX:Nat ->Bool) (D X b g J cap:Nat) (iv:pG) (m:ez) (pre post:List Value) (t:TypeId) (uv:Value) (us:List (Value × Value)) (u:Value × Value) (l1 l2:List fa) (lo:List eV) (fq:eV) (asks:Int) (ty:gr)
  (KS:fW w b pre post t ⟨uv, .slice (some ⟨g,0,none⟩) (lo.length+1) cap,us++[u]⟩ ⟨l1++l2,lo++[fq],asks⟩) (hd:jT w D X b pre.length g (lo.length*5) J) (Li:jg w FX X iv m) (PW:lW m fq.fn ty) (hk:m.imports.length+m.funcs.length <=100000)
  (K3:fq.base=(l1.length:Int)) (Lc:0 < ty.results.length ->l1++l2≠[]) (hn:l1.length+l2.length <=50000):
  Calls prog 25 #[.pointer (some ⟨D,0,none⟩)] w (fR b pre post t ⟨uv, .slice (some ⟨g,0,none⟩) (lo.length+1) cap,us++[u]⟩ (qI (ka l1 l2 (decide (0 < ty.results.length))) lo asks) w):=by
 have KW:=(an w.heap.size w).alloc (ag _) (.cells #[.int .i64 0, .int .i64 0, .int .i64 0, .slice none 0 0] 32);have HX:=V (eG.new w #[.int .i64 0, .int .i64 0, .int .i64 0, .slice none 0 0] 32);have PV:=V KS;have Ky:=V (KS.below KW);have HD:=V (hd.below KW);have KO:=V (Li.below KW);have HTY:=V PW;have HT:=V (kU.dW (v:=⟨uv, .slice (some ⟨g,0,none⟩) (lo.length+1) cap,us++[u]⟩) (b:=b) KW);have HBS:=V K3;have HRS:=V Lc;have Lm:=KS.kf.lt;clear KS hd Li KW PW K3 Lc;go_enter func25,ntmps25;go_wp2_with fail;generalize(w.alloc (.cells #[.int .i64 0, .int .i64 0, .int .i64 0, .slice none 0 0] 32))=w0 at HX Ky HD KO HT⊢;refine wp_cut (fun a' w'=>∃(T:Nat),a'=fr (.pointer (some ⟨D,0,none⟩)::gs a' 1 1 (.pointer (some ⟨w.heap.size,0,none⟩):: .pointer (some ⟨T,0,none⟩)::gs a' 4 71 []))/\Jd T ty w0 w') ?_ ?_
 ·obtain⟨⟨p0,-,-,-,-⟩,-,-,-,-,-,-⟩:=Ky.out.cells
  have d0:=HD.out.d0;have d2:=HD.out.d2;have HSB:=V (show∀w',Below w0.heap.size w0 w' ->w'.cell? ⟨D,0,none⟩=some (.pointer (some ⟨X,0,none⟩))/\w'.cell? ⟨D,2,none⟩=some (.pointer (some ⟨g,lo.length*5,none⟩))/\w'.cell? ⟨g,lo.length*5,none⟩=some (.int .i64 fq.fn)from
   fun w' hb=>⟨(Ext.dW hb).1 _ _ d0,(Ext.dW hb).1 _ _ d2,(Ext.dW hb).1 _ _ p0⟩)
  refine lC (fun w'=>w'.cell? ⟨D,0,none⟩=some (.pointer (some ⟨X,0,none⟩))/\w'.cell? ⟨D,2,none⟩=some (.pointer (some ⟨g,lo.length*5,none⟩))/\w'.cell? ⟨g,lo.length*5,none⟩=some (.int .i64 fq.fn)) (ord [(0,true),(1,true),(2,true),(3,true),(4,true),(5,true),(6,true),(7,true),(8,true),(9,true),(10,true)]
   (.fork 11 15 (ord [(12,true),(13,true),(14,true),(15,false),(16,false),(17,true)] .nil) (ord [(11,false),(12,true),(13,true),(14,true),(16,false),(17,true)] .nil))) (by kernel_rfl) (by kernel_rfl) (HSB.out _ (an _ _).drew) ?_
  clear p0 d0 d2;dsimp only [ord];iterate 11 (first | (apply ord_skip rfl rfl;simp only [Act.put,bj,bD,bF]) | (apply iy rfl rfl rfl;·(rintro w' ⟨t0,t1,t2⟩;go_wp2;exact⟨rfl,rfl,rfl⟩)))
  refine po rfl rfl rfl rfl ?_ ?_
  ·go_wp2_with fail
   refine(oO _ FX X iv m (KO.out.below (an _ _).drew) ty fq.fn HTY.out hk).mono ?_;rintro e w2 ⟨u1,u2,rfl,h1,h2,KT⟩;have hb:Below w0.heap.size w0 w2:=fN KT;obtain⟨ap,cp,rfl,-,-⟩:=h1.sl;obtain⟨ar,cr,rfl,-,hcr⟩:=h2.sl;have HB:=V hb;clear h1 h2 hb KT;go_wp2_with fail;refine⟨HSB.out _ HB.out,?_⟩;iterate 3 (first | (apply ord_skip rfl rfl;simp only [Act.put,bj,bD,bF]) | (apply iy rfl rfl rfl;·(rintro w' ⟨t0,t1,t2⟩;go_wp2;exact⟨rfl,rfl,rfl⟩)))
   refine fL rfl rfl ?_;have Kx:=HB.out.alloc HB.out.size (.cells #[.slice none 0 0, .slice none 0 0] 109);have hT:=eG.new w2 #[.slice none 0 0, .slice none 0 0] 109;have hT1:=HB.out.size;go_wp2_with fail;refine⟨HSB.out _ Kx,?_⟩;refine fL rfl rfl ?_;generalize w2.alloc (.cells #[.slice none 0 0, .slice none 0 0] 109)=w3 at Kx hT⊢;obtain⟨x0,x1,z0,z1⟩:=hT.two;go_wp2_with fail;have Kz:=fF w3 w2.heap.size (.slice ap ty.params.length cp) (.slice ar ty.results.length cr);have K9:=Kx.trans (Kz.below Kx.size (fun i hi=>by omega));refine⟨HSB.out _ K9,?_⟩;iterate 1 (first | (apply ord_skip rfl rfl;simp only [Act.put,bj,bD,bF]) | (apply iy rfl rfl rfl;·(rintro w' ⟨t0,t1,t2⟩;go_wp2;exact⟨rfl,rfl,rfl⟩)))
   refine mo ?_;refine aD ?_;exact⟨rfl,w2.heap.size,rfl,ap,cp,ar,cr,hT.mP _ _,hcr,K9,hT1⟩
  ·have Kx:=((an w0.heap.size w0).alloc (ag _) (.cells #[.slice none 0 0, .slice none 0 0] 109)).drew
   have hT:=(eG.new w0 #[.slice none 0 0, .slice none 0 0] 109).drew;go_wp2_with fail;refine⟨HSB.out _ Kx,?_⟩;refine fL rfl rfl ?_;have K6:=V Kx;have HT2:=V hT;generalize(w0.alloc (.cells #[.slice none 0 0, .slice none 0 0] 109)).drew=w3 at K6 HT2⊢;clear Kx hT;go_wp2_with fail;refine(oO _ FX X iv m (KO.out.below K6.out) ty fq.fn HTY.out hk).mono ?_;rintro e w4 ⟨u1,u2,rfl,h1,h2,hb⟩;obtain⟨ap,cp,rfl,-,-⟩:=h1.sl;obtain⟨ar,cr,rfl,-,hcr⟩:=h2.sl;have Mr:=K6.out.trans (hb.mono K6.out.size);have hT4:=HT2.out.below hb HT2.out.lt;clear h1 h2 hb K6 HT2;go_wp2_with fail;refine⟨HSB.out _ Mr,?_⟩;iterate 3 (first | (apply ord_skip rfl rfl;simp only [Act.put,bj,bD,bF]) | (apply iy rfl rfl rfl;·(rintro w' ⟨t0,t1,t2⟩;go_wp2;exact⟨rfl,rfl,rfl⟩)))
   refine fL rfl rfl ?_;obtain⟨x0,x1,z0,z1⟩:=hT4.two;go_wp2_with fail;have Kz:=fF w4 w0.heap.size (.slice ap ty.params.length cp) (.slice ar ty.results.length cr);have Ly:=Mr.trans (Kz.below Mr.size (fun i hi=>by omega));refine⟨HSB.out _ Ly,?_⟩;iterate 1 (first | (apply ord_skip rfl rfl;simp only [Act.put,bj,bD,bF]) | (apply iy rfl rfl rfl;·(rintro w' ⟨t0,t1,t2⟩;go_wp2;exact⟨rfl,rfl,rfl⟩)))
   refine mo ?_;refine aD ?_;exact⟨rfl,w0.heap.size,rfl,ap,cp,ar,cr,hT4.mP _ _,hcr,Ly,ag _⟩
 ·skip
  rintro a' w1 ⟨T,Kw,hJ⟩;dsimp only [fr,gs]at Kw;generalize slot a'=f at Kw;subst Kw;obtain⟨ap,cp,ar,cr,hT,hcr,hb,hTn⟩:=hJ;replace HX:=V (HX.out.below hb HX.out.lt);replace Ky:=V (Ky.out.below hb);replace HD:=V (HD.out.below hb);replace HT:=V (HT.out.below hb);have hww:=hb.size;clear hb KO HTY;obtain⟨⟨-,-,-,p3,-⟩,-,-,-,-,-,-⟩:=Ky.out.cells;rw [HBS.out]at p3;have hS:w1.drew.cell? ⟨D,2,none⟩=some (.pointer (some ⟨g,lo.length*5,none⟩))/\w1.drew.cell? ⟨g,lo.length*5+3,none⟩=some (.int .i64 (l1.length:Int))/\w1.drew.cell? ⟨T,1,none⟩=some (.slice ar ty.results.length cr):=⟨HD.out.d2,p3,hT.two.2.1⟩;clear p3;obtain⟨res,Lc⟩:∃res,decide (0 < ty.results.length)=res:=⟨_,rfl⟩;have f1:decide ((0:Int) < (ty.results.length:Int))=res:=by rw [<- Lc];congr 1;apply propext;omega
  have HRS:=V (show res=true ->l1++l2≠[]from fun h=>HRS.out (by rw [h]at Lc;exact cF Lc));have HRE:=V Lc;go_wp2_with fail;refine eO (fun w'=>w'.cell? ⟨D,2,none⟩=some (.pointer (some ⟨g,lo.length*5,none⟩))/\w'.cell? ⟨g,lo.length*5+3,none⟩=some (.int .i64 (l1.length:Int))/\w'.cell? ⟨T,1,none⟩=some (.slice ar ty.results.length cr)) 12 (up 0 12 []) (by kernel_rfl) (by kernel_rfl) hS ?_;clear hS;iterate 12 (first | (apply sk rfl rfl;simp only [pt]) | (apply dV rfl rfl rfl;·(rintro w' ⟨t0,t1,t2⟩;go_wp2;exact⟨rfl,rfl,rfl⟩)))
  refine fG rfl rfl ?_;replace HX:=V HX.out.drew;replace Ky:=V Ky.out.drew;replace HD:=V HD.out.drew;replace HT:=V HT.out.drew;clear hT Lc;generalize w1.drew=w2 at HX Ky HD HT⊢;clear f1;go_wp2_with fail;refine(Fh w2 D X b g (lo.length*5) J pre post t uv (.slice (some ⟨g,0,none⟩) (lo.length+1) cap) (us++[u]) l1 l2 (lo++[fq]) asks _ rfl res HRS.out Ky.out HD.out (by omega)).mono ?_;rintro e w3 ⟨uv',rfl,hst3,ht3⟩;have Pn:=Ky.out.not HX.out (by omega) (by decide);replace HX:=V (HX.out.keeps ht3.1 Pn);replace HD:=V (HD.out.keeps ht3.1 (HD.out.not Ky.out));replace HT:=V (HT.out.trans ht3);replace Ky:=V hst3;clear hst3 ht3 Pn;go_wp2_with fail;refine⟨trivial,?_⟩;refine aD ?_;have hS:w3.drew.cell? ⟨D,1,none⟩=some (.pointer (some ⟨b,pre.length,none⟩))/\w3.drew.cell? ⟨b,pre.length+1,none⟩=some (.slice (some ⟨g,0,none⟩) (lo.length+1) cap):=⟨HD.out.d1,Ky.out.c1⟩;obtain⟨-,-,-,-,-,Lk,My⟩:=Ky.out.cells;have LZ:=fun wx=>FN (some ⟨g,0,none⟩) (lo.length+1) cap lo.length (by omega) wx;go_wp2_with fail;refine eO (fun w'=>w'.cell? ⟨D,1,none⟩=some (.pointer (some ⟨b,pre.length,none⟩))/\w'.cell? ⟨b,pre.length+1,none⟩=some (.slice (some ⟨g,0,none⟩) (lo.length+1) cap)) 23 (up 0 23 []) (by kernel_rfl) (by kernel_rfl) hS ?_;clear hS;replace HX:=V HX.out.drew;replace Ky:=V Ky.out.drew;replace HD:=V HD.out.drew;replace HT:=V HT.out.drew;generalize w3.drew=w4 at HX Ky HD HT⊢;iterate 23 (first | (apply sk rfl rfl;simp only [pt]) | (apply dV rfl rfl rfl;·(rintro w' ⟨t0,t1⟩;go_wp2;exact⟨rfl,rfl,rfl⟩)))
  clear LZ;refine fG rfl rfl ?_;have c1:w4.cell? ⟨b,pre.length+1,none⟩=some (.slice (some ⟨g,0,none⟩) (lo.length+1) cap):=Ky.out.c1;have z1:=Ky.out.kf.free (pre.length+1);go_wp2_with fail;refine⟨trivial,?_⟩;refine aD ?_;clear c1 z1;obtain⟨h1,h2⟩:=Ky.out.F2;have Pn:=Ky.out.not HX.out (by omega) (by decide);replace HX:=V (HX.out.keeps h2.1 Pn);replace HD:=V (HD.out.keeps h2.1 (HD.out.not Ky.out));replace HT:=V (HT.out.trans h2);replace Ky:=V h1;clear h1 h2 Pn;generalize w4.setCell ⟨b,pre.length+1,none⟩ (.slice (some ⟨g,0,none⟩) lo.length cap)=w5 at HX Ky HD HT⊢;have d1:=HD.out.d1;have c1:w5.cell? ⟨b,pre.length+1,none⟩=some (.slice (some ⟨g,0,none⟩) lo.length cap):=Ky.out.c1;by_cases q:0 < lo.length
  ·have f1:decide ((0:Int) < (lo.length:Int))=true:=aA (by omega)
   have f2:decide (0 < lo.length)=true:=aA q;have HR:=V (show qI (ka l1 l2 res) lo asks=(.more,⟨ka l1 l2 res,lo,asks⟩)by unfold qI;rw [if_pos q]);clear q;go_wp2_with fail;refine(uM _).mono ?_;rintro e w6 ⟨rfl,hb⟩;replace HX:=V (HX.out.below hb HX.out.lt);replace Ky:=V (Ky.out.below hb);replace HT:=V (HT.out.below hb);clear hb d1 c1;obtain⟨⟨x0,x1,x2,x3⟩,z0,z1,z2,z3⟩:=HX.out.four;go_wp2_with fail;refine aM (ey rfl _ _ rfl (nM HX.out rfl 1 0 0 (.slice none 0 0))) rfl ?_;rw [HRE.out];exact fR.mk HR.out Ky.out HT.out (Ky.out.not HX.out (by omega) (by decide)) (dT.nil _ _) (fun g hg=>by simp [eA,Value.ownBlock]at hg) (by simp [eA,Value.ownBlock]) 1 0 0 rfl rfl rfl
  ·have f1:decide ((0:Int) < (lo.length:Int))=false:=az (by omega)
   have f2:decide (0 < lo.length)=false:=az q;have HR:=V (show qI (ka l1 l2 res) lo asks=(⟨3,0,0,ka l1 l2 res⟩,⟨ka l1 l2 res,lo,asks⟩)by unfold qI;rw [if_neg q]);clear q;obtain⟨av,cv,Qu,-,LC⟩:=Ky.out.dZ.slice;have c0:w5.cell? ⟨b,pre.length,none⟩=some (.slice av (ka l1 l2 res).length cv):=by rw [<- Qu];exact Ky.out.c0
   have HV:=V (show eg 2 gb w5 (.slice av (ka l1 l2 res).length cv) (ka l1 l2 res)by rw [<- Qu];exact Ky.out.dZ.fy fK);have HW:=V HT.out.1.size;clear Qu;go_wp2_with fail;refine(mL _ (ka l1 l2 res) w5 HV.out (CD l1 l2 res (by omega))).mono ?_;rintro e w6 ⟨vv,rfl,ho,hb⟩;obtain⟨a2,c2,rfl,-,-⟩:=ho.slice;have HO:=V ho;have HL:=V hb.size;have HN:=V (fun g (hg:eA (.slice a2 (ka l1 l2 res).length c2) g)=>show w5.heap.size <=g from(et ho hg).1);have Px:=V (fun g hg=>Ky.out.lt (g:=g) hg);have HXL:=V HX.out.lt;replace HX:=V (HX.out.below hb HX.out.lt);replace Ky:=V (Ky.out.below hb);replace HT:=V (HT.out.below hb);clear hb d1 c1 c0 ho;obtain⟨⟨x0,x1,x2,x3⟩,z0,z1,z2,z3⟩:=HX.out.four;go_wp2_with fail;refine aM (ey rfl _ _ rfl (nM HX.out rfl 3 0 0 (.slice a2 (ka l1 l2 res).length c2))) rfl ?_;rw [HRE.out];exact fR.mk HR.out Ky.out HT.out (Ky.out.not HX.out (by omega) (by decide)) (HO.out.lower HW.out) (fun g hg h=>by have:=HN.out g hg;have:=Px.out g h;omega) (fun h=>by have:=HN.out _ h;have:=HXL.out;omega) 3 0 0 rfl rfl rfl
def Iy (ks:List Int) (w:World) (e:Ending) (w':World):Prop:=∃v,e= .returned v/\dT 3 1 fb w' w.heap.size v ks/\Below w.heap.size w w'
def Fp (T X bc q:Nat) (vp v1 v12 vl:Value) (w:World):Prop:=
 w.cell? ⟨T,0,none⟩=some vp/\w.cell? ⟨X,1,none⟩=some v1/\w.cell? ⟨X,12,none⟩=some v12/\w.cell? ⟨bc,q,none⟩=some vl
theorem Fp.ext {T X bc q:Nat} {vp v1 v12 vl:Value} {w w':World} (h:Fp T X bc q vp v1 v12 vl w) (he:Ext w w'):Fp T X bc q vp v1 v12 vl w':=⟨he.1 _ _ h.1,he.1 _ _ h.2.1,he.1 _ _ h.2.2.1,he.1 _ _ h.2.2.2⟩
theorem dU.tp {B:Nat} {v:Value} {w0 w w':World} {t:TypeId} {k n:Nat} {xs:List Value} (h:Below w0.heap.size w0 w) (ho:w.ownsRow B t k v n xs) (hB:w0.heap.size <=B) (hk:dU (eA v) w w'):Below w0.heap.size w0 w':=
 h.trans (hk.below h.size (fun i hi=>by have:=(et ho hi).1;omega))
theorem A3 (w:World) (FX:Nat ->Bool) (X:Nat) (iv:pG) (m:ez) (h:jg w FX X iv m) (k:Nat) (c:gF) (ty:gr) (hc:m.ej[k]?=some c) (f:Int) (hf:f=((m.imports.length+k:Nat):Int)) (PW:lW m f ty) (hk:m.imports.length+m.funcs.length <=100000) (Mw:k <=100000) (hl:ty.params.length+c.locals.length <=100000):
  Calls prog 37 #[.pointer (some ⟨X,0,none⟩), .int .i64 f] w (Iy (ty.params++c.locals) w):=by
 have Ls:=(aN.1 hc).1;have KO:=V h;have HC:=V hc;have HF:=V hf;have HIM:=V (show lM m f=false by rw [hf];simp [lM];omega);have hty2:=oO w FX X iv m h ty f PW hk;clear h hc hf PW;go_enter func37,ntmps37;go_wp2_with fail;refine hty2.mono ?_;clear hty2;rintro e w2 ⟨u1,u2,rfl,h1,h2,hb⟩;obtain⟨ap,cp,rfl,-,hcp⟩:=h1.sl;obtain⟨ar,cr,rfl,-,-⟩:=h2.sl;have HP:=V (h1.ext (vJ FX w2));have HB:=V (hb.alloc hb.size (.cells #[.slice ap ty.params.length cp, .slice ar ty.results.length cr] 109));have HT:=V (eG.new w2 #[.slice ap ty.params.length cp, .slice ar ty.results.length cr] 109);replace HP:=V (HP.out.ext (Ext.dW ((an w2.heap.size w2).alloc (ag _) (.cells #[.slice ap ty.params.length cp, .slice ar ty.results.length cr] 109))));clear h1 h2 hb;go_wp2_with fail;generalize w2.alloc (.cells #[.slice ap ty.params.length cp, .slice ar ty.results.length cr] 109)=w3 at HP HB HT⊢;refine(jG w3 FX X iv m (KO.out.below HB.out) f).mono ?_;rintro e w4 ⟨rfl,hb⟩;rw [HIM.out];replace HT:=V (HT.out.below hb HT.out.lt).drew;replace HP:=V (HP.out.ext (Ext.dW hb));replace HB:=V (HB.out.trans (hb.mono HB.out.size)).drew;clear hb;have Li:=KO.out.below HB.out;obtain⟨b,off,cap,u,MR,Lk,My,Lm,KV,hi⟩:=ee.at Li.mod.2.2.2.2.2.2.1 HC.out;obtain⟨ai,ci,h1,-,hcim⟩:=Li.is.2.1.sl;obtain⟨al,cl,hle,-,hclm⟩:=hi.1.1.sl;have x1:w4.drew.cell? ⟨X,1,none⟩=some (.slice ai m.imports.length ci):=by rw [<- h1];exact Li.kf.cell 1
 have x12:w4.drew.cell? ⟨X,12,none⟩=some (.slice (some ⟨b,off,none⟩) m.ej.length cap):=by rw [<- MR];exact Li.kf.cell 12
 have y1:w4.drew.cell? ⟨b,off+k*2,none⟩=some (.slice al c.locals.length cl):=by
  have:=(gl (KV 0 _ rfl)).2;rw [<- hle];exact this
 have HL:=V (show eg 1 fb w4.drew (.slice al c.locals.length cl) c.locals by rw [<- hle];exact hi.1.1.ext (vJ FX _));replace HP:=V (show eg 1 fb w4.drew (.slice ap ty.params.length cp) ty.params from HP.out.ext (Ext.dW (an _ _).drew));have hS:Fp w2.heap.size X b (off+k*2) (.slice ap ty.params.length cp) (.slice ai m.imports.length ci) (.slice (some ⟨b,off,none⟩) m.ej.length cap) (.slice al c.locals.length cl) w4.drew:=⟨HT.out.two.1,x1,x12,y1⟩;clear Li KV hi MR h1 hle x1 x12 y1 Lm;have HFF:=HF.out;subst HFF;go_wp2_with fail;refine ef (Fp w2.heap.size X b (off+k*2) (.slice ap ty.params.length cp) (.slice ai m.imports.length ci) (.slice (some ⟨b,off,none⟩) m.ej.length cap) (.slice al c.locals.length cl)) ((1,true)::(2,true)::up 4 16 ((0,false)::(3,false)::(20,false)::(21,true)::[])) (by kernel_rfl) (by kernel_rfl) hS ?_;have HS:=V hS;clear hS;generalize w4.drew=w5 at HT HB HS HL HP⊢;iterate 18 (first | (apply sk rfl rfl;simp only [pt]) | (apply dV rfl rfl rfl;·(rintro w' ⟨t0,t1,t2,t3⟩;go_wp2;exact⟨rfl,rfl,rfl⟩)))
 refine ed rfl rfl ?_;have MM:=(an w5.heap.size w5).alloc (ag _) (.cells #[] 3);have QU:=V MM;clear MM;go_wp2_with fail;refine⟨HS.out.ext (Ext.dW QU.out),?_⟩;refine ed rfl rfl ?_;have HO:=V (dT.empty (α:=Int) (t:=3) (k:=1) (enc:=fb) w5);have HP2:=V (HP.out.ext (Ext.dW QU.out));have Lr:=QU.out.size;go_wp2_with (first | (at_builtin;refine lP (w5.alloc (.cells #[] 3)) rfl _ _ rfl rfl w5.heap.size (.slice (some ⟨w5.heap.size,0,none⟩) 0 0) [] rfl HO.out _ ty.params rfl HP2.out (by simp only [aK];omega) Lr ?_));intro v6 w6 ho O4 hs6;have Ny:Below w5.heap.size w5 w6:=dU.tp QU.out HO.out (ag _) O4;have HO6:=V (show dT 3 1 fb w6 w5.heap.size v6 ty.params from ho);have HB6:=V Ny;clear ho O4 hs6 Ny;obtain⟨a6,c6,rfl,-,-⟩:=HO6.out.slice;go_wp2_with fail;refine⟨HS.out.ext (Ext.dW HB6.out),?_⟩;refine ed rfl rfl ?_;have P3:=V (HL.out.ext (Ext.dW HB6.out));have hsz6:=HB6.out.size;go_wp2_with (first | (at_builtin;refine lP w6 rfl _ _ rfl rfl w5.heap.size (.slice a6 ty.params.length c6) ty.params rfl HO6.out _ c.locals rfl P3.out (by omega) hsz6 ?_));intro v7 w7 ho hk7 hs7;have HB7:=V (dU.tp HB6.out HO6.out (ag _) hk7);have HO7:=V ho;clear ho hk7 hs7;go_wp2_with fail;refine⟨HS.out.ext (Ext.dW HB7.out),?_⟩;iterate 1 (first | (apply sk rfl rfl;simp only [pt]) | (apply dV rfl rfl rfl;·(rintro w' ⟨t0,t1,t2,t3⟩;go_wp2;exact⟨rfl,rfl,rfl⟩)))
 refine eL ?_;refine aD ?_;go_wp2_with fail;go_ret;exact⟨_,rfl,HO7.out.lower HB.out.size,HB.out.trans (HB7.out.mono HB.out.size)⟩
theorem DD {w:World} {B:Nat} {v:Value} {ks:List Int} (h:dT 3 1 fb w B v ks) (n:Nat) (hn:n <=ks.length):
  ∃a cap dp,v= .slice a ks.length cap/\cap <=9223372036854775807/\(∀wx,(Instr.slice 25 (.slice a ks.length cap) (some (.int .i64 n)) none none).run prog wx= .ok (.slice dp (ks.length - n) (cap - n)) wx)/\
   ∀(w':World) (B':Nat),dT 3 1 fb w' B' (.slice a ks.length cap) ks ->eg 1 fb w' (.slice dp (ks.length - n) (cap - n)) (ks.drop n):=by
 have hi:=h.fy fw;obtain⟨a,cap,rfl,h1,h2,-⟩:=hi;by_cases q:n < ks.length
 ·obtain⟨g,KR,cur,hv,-,hg,-⟩:=h.open (by intro e;rw [e]at q;simp at q)
  injection hv with e1 _ e2;subst e1 e2;refine⟨_,cap,some ⟨g,n,none⟩,rfl,by simpa [maxLen] using h2,fun wx=>km g _ cap n q h1 wx,fun w' B' h'=>⟨some ⟨g,n,none⟩,cap - n,by rw [bq],by rw [bq];omega,by omega,fun i x hx=>?_⟩⟩;obtain⟨a',KR,Pp,_,_,h3⟩:=h'.fy fw;injection Pp with e3 _ e4;subst e3 e4;rw [List.getElem?_drop]at hx;obtain⟨b,off,he,KC,hc⟩:=h3 (n+i) x hx;injection he with he;injection he with e3 e4;subst e3 e4;refine⟨g,n,rfl,KC,fun j u hu=>?_⟩;have:=hc j u hu;rw [<- this]
  congr 2
  omega
 ·obtain rfl:n=ks.length:=by omega
  have ha:a=none ->cap=0:=by
   intro e;obtain⟨_,hv | ⟨g,KR,cur,hv,-⟩⟩:=h
   ·have:=hv.1
    injection this
   ·rw [e]at hv
    injection hv with e1;cases e1
  obtain⟨dp,hr⟩:=oH a ks.length cap h1 ha;refine⟨a,cap,dp,rfl,by simpa [maxLen] using h2,fun wx=>by rw [hr wx,Nat.sub_self],fun w' B' h'=>⟨dp,cap - ks.length,by simp,by simp,by omega,?_⟩⟩;simp
def zv (k:Int):fa:=⟨k,0⟩
def nn (ks:List Int) (s:gL) (f:Int) (args:List fa):iV × gL:=
 if 32 <=s.eh.length then(.full,s)else(.more,⟨s.dZ,s.eh++[⟨f,0,args++(ks.drop args.length).map zv,s.dZ.length,[]⟩],s.asks⟩)
def Jb (args:List fa) (kv:Value) (ks rest:List Int) (w2 w':World) (v:Value) (i:Nat):Prop:=i <=rest.length/\dT 3 1 fb w' 0 kv ks/\dT 42 2 gb w' w2.heap.size v (args++(rest.take i).map zv)/\Below w2.heap.size w2 w'
theorem yr (w:World) (FX:Nat ->Bool) (X b:Nat) (iv:pG) (m:ez) (pre post:List Value) (t:TypeId) (v:qD) (s:gL) (k:Nat) (c:gF) (ty:gr) (fn:Int) (args:List fa) (va:Value)
  (KS:fW w b pre post t v s) (Li:jg w FX X iv m) (hc:m.ej[k]?=some c) (hf:fn=((m.imports.length+k:Nat):Int)) (PW:lW m fn ty) (hk:m.imports.length+m.funcs.length <=100000) (Mw:k <=100000) (hl:ty.params.length+c.locals.length <=100000)
  (ha:eg 2 gb w va args) (MK:args.length <=(ty.params++c.locals).length) (hn:s.dZ.length <=50000) (Kw:s.eh.length <=50000):
  Calls prog 11 #[.pointer (some ⟨X,0,none⟩), .pointer (some ⟨b,pre.length,none⟩), .int .i64 fn,va] w (fR b pre post t v (nn (ty.params++c.locals) s fn args) w):=by
 obtain⟨dZ,eh,asks⟩:=s;obtain⟨uv,uf,us⟩:=v;obtain⟨av,cv,Qu,-,My⟩:=KS.dZ.slice;obtain⟨af,cf,huf,-,hcfm⟩:=KS.eh.slice;have hzl:(eh.zip us).length=eh.length:=by rw [bG,KS.rows.len,bZ]
 simp only at Qu huf hn Kw;rw [hzl]at huf;subst Qu huf;obtain⟨aa,ca,rfl,-,hcam⟩:=id ha;unfold maxLen at hcam;have KW:=(an w.heap.size w).alloc (ag _) (.cells #[.int .i64 0, .int .i64 0, .int .i64 0, .slice none 0 0] 32);have HX:=V (eG.new w #[.int .i64 0, .int .i64 0, .int .i64 0, .slice none 0 0] 32);have PV:=V KS;have Ky:=V (KS.below KW);have KO:=V (Li.below KW);have HA:=V (ha.ext (Ext.dW KW));have HT:=V (kU.dW (v:=⟨.slice av dZ.length cv, .slice af eh.length cf,us⟩) (b:=b) KW);have HB:=V KW;have HC:=V hc;have HF:=V hf;have HTY:=V PW;have Lm:=KS.kf.lt;have c0:World.cell? _ ⟨b,pre.length,none⟩=some (.slice av dZ.length cv):=Ky.out.c0;have c1:World.cell? _ ⟨b,pre.length+1,none⟩=some (.slice af eh.length cf):=Ky.out.c1;clear KS Li ha KW hc hf PW hzl;by_cases q:32 <=eh.length
 ·have f1:decide ((32:Int) <=(eh.length:Int))=true:=aA (by omega)
  have f2:decide (32 <=eh.length)=true:=aA q;have HR:=V (show nn (ty.params++c.locals) ⟨dZ,eh,asks⟩ fn args=(.full,⟨dZ,eh,asks⟩)by unfold nn;rw [if_pos q]);clear q;go_enter func11,ntmps11;go_wp2_with fail;refine(yU _).mono ?_;rintro e w2 ⟨rfl,hb⟩;replace HX:=V (HX.out.below hb HX.out.lt);replace Ky:=V (Ky.out.below hb);replace HT:=V (HT.out.below hb);clear hb c0 c1;obtain⟨⟨x0,x1,x2,x3⟩,z0,z1,z2,z3⟩:=HX.out.four;go_wp2_with fail;refine aM (ey rfl _ _ rfl (nM HX.out rfl 5 0 0 (.slice none 0 0))) rfl ?_;exact fR.mk HR.out Ky.out HT.out PV.out.xp (dT.nil _ _) (fun g hg=>by simp [eA,Value.ownBlock]at hg) (by simp [eA,Value.ownBlock]) 5 0 0 rfl rfl rfl
 ·have f1:decide ((32:Int) <=(eh.length:Int))=false:=az (by omega)
  have f2:decide (32 <=eh.length)=false:=az q;obtain⟨rest,Lu⟩:∃rest,(ty.params++c.locals).drop args.length=rest:=⟨_,rfl⟩;have hrl:rest.length <=100000:=by rw [<- Lu,bq,ah];omega
  have HR:=V (show nn (ty.params++c.locals) ⟨dZ,eh,asks⟩ fn args=(.more,⟨dZ,eh++[⟨fn,0,args++rest.map zv,dZ.length,[]⟩],asks⟩)by unfold nn;rw [if_neg q,Lu]);have hargl:args.length <=100000:=by rw [ah]at MK;omega
  have HRS:=V Lu;have MH:=HR;clear q Lu HR;go_enter func11,ntmps11;go_wp2_with fail;generalize(w.alloc (.cells #[.int .i64 0, .int .i64 0, .int .i64 0, .slice none 0 0] 32))=w2 at HX Ky KO HA HT HB c0 c1⊢;refine(mL _ args w2 HA.out (by omega)).mono ?_;rintro e w3 ⟨lv,rfl,QY,hb⟩;obtain⟨a3,c3,rfl,-,-⟩:=QY.slice;have OQ:=V QY;have QV:=V hb;clear QY hb f1 f2;go_wp2_with fail;refine(A3 w3 FX X iv m (KO.out.below QV.out) k c ty HC.out fn HF.out HTY.out hk Mw hl).mono ?_;rintro e w4 ⟨kv,rfl,hko,hb⟩;obtain⟨ks,hks⟩:∃ks,ty.params++c.locals=ks:=⟨_,rfl⟩;have HRK:=V HRS.out;rw [hks]at hko MK HRK;obtain⟨ak,ck,dp,rfl,hckm,KH,hrk⟩:=DD hko args.length MK;have hrl2:ks.length - args.length=rest.length:=by rw [<- HRK.out,bq]
  clear hks;rw [hrl2]at KH hrk;have HKO:=V (hko.lower (bK w3.heap.size));rw [HRK.out]at hrk;have HLO4:=V (OQ.out.below hb);have HB4:=V (QV.out.trans (hb.mono QV.out.size));have HRK:=V hrk;clear hko hb hrk hrl2 MK;go_wp2_with fail;clear KH;refine eB (fun a' w'=>∃(i:Nat) (v:Value),a'=fr (.pointer (some ⟨X,0,none⟩):: .pointer (some ⟨b,pre.length,none⟩):: .int .i64 fn:: .slice aa args.length ca::gs a' 4 4 (.pointer (some ⟨w.heap.size,0,none⟩)::v::gs a' 10 16 (.slice dp rest.length (ck - args.length):: .int .i64 rest.length:: .int .i64 i::gs a' 29 27 [])))/\Jb args (.slice ak ks.length ck) ks rest w2 w' v i) (fun a' _=>(rest.length - (intOf (a'.tmps.getD 28 undef)).toNat)) ?_ ?_
  ·exact⟨0,_,rfl,bK _,HKO.out,by simpa using HLO4.out,HB4.out⟩
  ·skip
   rintro R a' w1 ⟨i,v,Kw,hJ⟩ HR;dsimp only [fr,gs]at Kw;generalize slot a'=f at Kw;subst Kw;obtain⟨hi,hks,QY,hb⟩:=hJ;have HKS:=V hks;have HRW:=V (HRK.out w1 0 hks);have OQ:=V QY;have HB5:=V hb;obtain⟨a5,c5,LV,-,-⟩:=QY.slice;have Ok:(args++(rest.take i).map zv).length=args.length+i:=by simp;omega
   rw [Ok]at LV;subst LV;clear QY hb hks;by_cases q:i < rest.length
   ·obtain⟨x,hx⟩:∃x,rest[i]?=some x:=⟨_,aq q⟩
    obtain⟨bk,offk,capk,LV,-,-,hbkl,KV⟩:=eg.at HRW.out hx;injection LV with e1 e2 e3;subst e1;have y0:w1.cell? ⟨bk,offk+i,none⟩=some (.int .i64 x):=by
     have:=KV 0 _ rfl
     rwa [bo,aL]at this
    have HXI:=V hx;have Lr:=HB5.out.size;clear hx KV e2 e3 hbkl;go_wp2_with (first | (at_builtin;refine eT w1 rfl _ _ 30 rfl _ 16 (by kernel_rfl) kb rfl (by decide) (by decide) w2.heap.size (.slice a5 (args.length+i) c5) (args++(rest.take i).map zv) rfl OQ.out (zv x) _ rfl rfl (lT _) rfl (by rw [Ok];omega) Lr ?_));intro v6 w6 ho O4 hs6;have HB6:=V (dU.tp HB5.out OQ.out (ag _) O4);have HK6:=V (HKS.out.keeps O4 (fun g hg h=>dT.ne HKS.out OQ.out (by decide) g hg h));have HO6:=V ho;clear ho O4 hs6;go_wp2_with fail;refine HR.out _ _ ⟨i+1,v6,rfl,by omega,HK6.out,?_,HB6.out⟩ ?_
    ·have h:=HO6.out
     rw [aQ,HXI.out];simpa using h
    ·simp [intOf]
     omega
   ·obtain rfl:i=rest.length:=by omega
    obtain⟨L,hL⟩:∃L,args++(rest.take rest.length).map zv=L:=⟨_,rfl⟩;have MY:=V (show nn (ty.params++c.locals) ⟨dZ,eh,asks⟩ fn args=(.more,⟨dZ,eh++[⟨fn,0,L,dZ.length,[]⟩],asks⟩)by rw [MH.out, <- hL,aU]);rw [hL]at OQ Ok;rw [<- Ok]at OQ⊢;have HOL:=V (fun g (hg:eA (.slice a5 L.length c5) g)=>(et OQ.out hg).1);have HLT:=V (fun g hg=>Ky.out.lt (g:=g) hg);have Ny:=HB5.out.drew;have HX7:=V (HX.out.below Ny HX.out.lt);have OZ:=V (Ky.out.below Ny);have HT7:=V (HT.out.below Ny);have HL7:=V (show dT 42 2 gb w1.drew 0 (.slice a5 L.length c5) L from OQ.out.lower (bK _));have hS:w1.drew.cell? ⟨b,pre.length+1,none⟩=some (.slice af eh.length cf)/\w1.drew.cell? ⟨b,pre.length,none⟩=some (.slice av dZ.length cv):=⟨OZ.out.c1,OZ.out.c0⟩;have KM:=V HT.out.1.size;clear hL Ok Ny c0 c1 HR HRW HKS HB5 OQ;go_wp2_with fail;refine eO (fun w'=>w'.cell? ⟨b,pre.length+1,none⟩=some (.slice af eh.length cf)/\w'.cell? ⟨b,pre.length,none⟩=some (.slice av dZ.length cv)) 17 (up 0 13 ((13,false)::(14,false)::(15,true)::(16,true)::[])) (by kernel_rfl) (by kernel_rfl) hS ?_;clear hS;generalize w1.drew=w7 at HX7 OZ HT7 HL7⊢;iterate 13 (first | (apply sk rfl rfl;simp only [pt]) | (apply dV rfl rfl rfl;·(rintro w' ⟨t0,t1⟩;go_wp2;exact⟨rfl,rfl,rfl⟩)))
    refine ed rfl rfl ?_;go_wp2_with fail;refine⟨⟨(OZ.out.alloc _).c1,(OZ.out.alloc _).c0⟩,?_⟩;refine ed rfl rfl ?_;have hzl:(eh.zip us).length=eh.length:=by rw [bG,OZ.out.rows.len,bZ]
    have HZL:=V hzl;clear hzl;go_wp2_with (first | (at_builtin;refine eT w7 rfl _ _ 35 rfl _ 72 (by kernel_rfl) mX rfl (by decide) (by decide) 0 (.slice af eh.length cf) (eh.zip us) rfl OZ.out.eh ((⟨fn,0,L,dZ.length,[]⟩:eV),((.slice a5 L.length c5:Value),(.slice none 0 0:Value))) _ rfl rfl (by intro z hz;simp only [lZ,bB,bJ,cM]at hz;rcases hz with rfl | rfl | rfl | rfl | rfl <;>rfl) rfl (by rw [HZL.out];omega) (bK _) ?_));intro v8 w8 ho hk hs;obtain⟨a8,c8,LV,-,-⟩:=ho.slice;rw [ah,HZL.out,aB]at LV;subst LV;have KP:=OZ.out.BO hk;have HP:=V (OZ.out.C3 (f:=⟨fn,0,L,dZ.length,[]⟩) (u:=((.slice a5 L.length c5:Value),(.slice none 0 0:Value))) ⟨HL7.out,dT.nil _ _⟩
     (fun g hg h=>hg.elim (fun hg=>by have:=HOL.out g hg;have:=HLT.out g h;omega) (fun hg=>by simp [eA,Value.ownBlock]at hg))
     (fun g hg h=>hg.elim (fun hg=>by have:=HOL.out g hg;have:=HLT.out g (.inr (.inr (.inl h)));omega) (fun hg=>by simp [eA,Value.ownBlock]at hg)) ho hk hs)
    have c1:w8.cell? ⟨b,pre.length+1,none⟩=some (.slice af eh.length cf):=(KP.1.cell _).trans (ye _ _ _ _);have c0:w8.cell? ⟨b,pre.length,none⟩=some (.slice av dZ.length cv):=(KP.1.cell _).trans (rq _ _ _ _);have z1:=KP.1.free (pre.length+1);have HX8:=V (HX7.out.keeps hk (fun hg=>dT.gA OZ.out.eh HX7.out (by decide) _ hg rfl));clear KP hk hs ho;go_wp2_with fail;refine⟨⟨c1,c0⟩,?_⟩;iterate 2 (first | (apply sk rfl rfl;simp only [pt]) | (apply dV rfl rfl rfl;·(rintro w' ⟨t0,t1⟩;go_wp2;exact⟨rfl,rfl,rfl⟩)))
    refine fG rfl rfl ?_;go_wp2_with fail;refine⟨trivial,?_⟩;refine aD ?_;clear c0 c1 z1;obtain⟨h1,h2,h3⟩:=HP.out;have HX9:=V (HX8.out.keeps (eu w8 b (pre.length+1) (.slice a8 (eh.length+1) c8)) (by omega));have HST9:=V h1;have HT9:=V (show kU _ ⟨.slice av dZ.length cv, .slice a8 (eh.length+1) c8,us++[((.slice a5 L.length c5:Value),(.slice none 0 0:Value))]⟩ b w _ from⟨HT7.out.1.trans h2 (fun g hg=> .inl hg),fun g hg=>by
     rcases h3 g hg with h | (h | h) | h
     ·exact .inl h
     ·have:=HOL.out g h
      have:=KM.out;exact .inr (by omega)
     ·simp [eA,Value.ownBlock]at h
     ·have:=HT7.out.1.size
      exact .inr (by omega)⟩)
    clear h1 h2 h3 HP;generalize w8.setCell ⟨b,pre.length+1,none⟩ (.slice a8 (eh.length+1) c8)=w9 at HX9 HST9 HT9⊢;go_wp2_with fail;refine(uM _).mono ?_;rintro e w10 ⟨rfl,hb⟩;replace HX9:=V (HX9.out.below hb HX9.out.lt);replace HST9:=V (HST9.out.below hb);replace HT9:=V (HT9.out.below hb);clear hb;obtain⟨⟨x0,x1,x2,x3⟩,z0,z1,z2,z3⟩:=HX9.out.four;go_wp2_with fail;refine aM (ey rfl _ _ rfl (nM HX9.out rfl 1 0 0 (.slice none 0 0))) rfl ?_;exact fR.mk MY.out HST9.out HT9.out (HST9.out.not HX9.out (by omega) (by decide)) (dT.nil _ _) (fun g hg=>by simp [eA,Value.ownBlock]at hg) (by simp [eA,Value.ownBlock]) 1 0 0 rfl rfl rfl
theorem fR.pass {w w3 w4:World} {b R:Nat} {pre post:List Value} {t:TypeId} {v v':qD} {r:iV × gL} {s:gL} {vv:Value} {xs:Array Value} (hb:Below w.heap.size w w3) (hX:eG w3 R xs 32) (hR:w.heap.size <=R) (hRb:R≠b) (h3:fW w3 b pre post t v s)
  (hs:fW w4 b pre post t v' r.2) (ht:kU v v' b w3 w4) (ho:dT 42 2 gb w4 w3.heap.size vv r.1.dZ) (hn:∀g,eA vv g ->¬ v'.own b g) (a1 a2 a3:Int) (h1:r.1.kind=a1) (h2:r.1.oX=a2) (h4:r.1.fn=a3):
  fR b pre post t v r w (.returned (.agg #[.int .i64 a1, .int .i64 a2, .int .i64 a3,vv])) (ll w4 R a1 a2 a3 vv):=by
 subst h1 h2 h4;have Kz:=gy w4 R r.1.kind r.1.oX r.1.fn vv;have hX4:=hX.keeps ht.1 (h3.not hX hRb (by decide));have hRn:¬ v'.own b R:=hs.not hX4 hRb (by decide);have hRl:=hX.lt;refine⟨v',vv,rfl,hs.keeps Kz (fun g hg e=>hRn (e▸hg)),⟨((dU.dW hb).trans ht.1 (fun g hg=> .inl hg)).trans Kz (fun i hi=> .inr (by omega)),fun g hg=>(ht.2 g hg).imp id (fun h=>aW hb.size h)⟩,?_,hn⟩;exact(ho.keeps Kz (fun g hg e=>by have:=(et ho hg).1;omega)).lower hb.size
theorem iD {w2:World} {R:Nat} {xs:Array Value} (hx:eG w2 R xs 32) (hs:xs.size=4) (a b c:Int) (v:Value):
  (loadVar 32 ⟨R,0,none⟩).run prog (ll w2 R a b c v)= .ok (.agg #[.int .i64 a, .int .i64 b, .int .i64 c,v]) (ll w2 R a b c v):=by
 obtain⟨x0,x1,x2,x3,rfl⟩:∃x0 x1 x2 x3,xs=#[x0,x1,x2,x3]:=by
  match xs,hs with
  | ⟨[x0,x1,x2,x3]⟩,_=>exact⟨x0,x1,x2,x3,rfl⟩
 exact(hx.ry _ _ _ _).pF
theorem sR (w:World) (k n:Int):eg 2 gb (w.alloc (.cells #[.int .i64 k, .int .i64 n] 42)) (.slice (some ⟨w.heap.size,0,none⟩) 1 1) [⟨k,n⟩]:=by
 have hx:=eG.new w #[.int .i64 k, .int .i64 n] 42;have ho:dT 42 2 gb (w.alloc (.cells #[.int .i64 k, .int .i64 n] 42)) w.heap.size (.slice (some ⟨w.heap.size,0,none⟩) 1 1) [⟨k,n⟩]:=
  ⟨by simp [gb], .inr ⟨w.heap.size,1,_,rfl,ag _,hx,by simp,by simp [maxLen],by simp,by simp [gb]⟩⟩
 exact ho.fy fK
theorem Kk (w:World) (D X b g J cap:Nat) (pre post:List Value) (t:TypeId) (uv:Value) (us:List (Value × Value)) (u:Value × Value) (dZ:List fa) (lo:List eV) (f:eV) (asks:Int) (a:Int) (bb:Int) (al:Option Addr) (nl cl:Nat)
  (KS:fW w b pre post t ⟨uv, .slice (some ⟨g,0,none⟩) (lo.length+1) cap,us++[u]⟩ ⟨dZ,lo++[f],asks⟩) (hd:jT w D X b pre.length g (lo.length*5) J) (hn:dZ.length <=50000) (NM: -1 <=f.pc/\f.pc <=1000000):
  Calls prog 23 #[.pointer (some ⟨D,0,none⟩), .agg #[.int .i64 1, .int .i64 a, .int .i64 bb, .slice al nl cl]] w (fR b pre post t ⟨uv, .slice (some ⟨g,0,none⟩) (lo.length+1) cap,us++[u]⟩ (jo dZ [] ⟨dZ,lo++[f],asks⟩ lo f) w):=by
 have KJ:=(an w.heap.size w).alloc (ag _) (.cells #[.int .i64 1, .int .i64 a, .int .i64 bb, .slice al nl cl] 27);have Kx:=KJ.alloc KJ.size (.cells #[.int .i64 0, .int .i64 0, .int .i64 0, .slice none 0 0] 32);have NC:=(eG.new w #[.int .i64 1, .int .i64 a, .int .i64 bb, .slice al nl cl] 27).alloc (.cells #[.int .i64 0, .int .i64 0, .int .i64 0, .slice none 0 0] 32);have Mv:=eG.new (w.alloc (.cells #[.int .i64 1, .int .i64 a, .int .i64 bb, .slice al nl cl] 27)) #[.int .i64 0, .int .i64 0, .int .i64 0, .slice none 0 0] 32;rw [aE]at Mv;have Lm:=KS.kf.lt;have HI:=V NC;have HX:=V Mv;have HB:=V Kx;have Ky:=V (KS.below Kx);have HD:=V (hd.below Kx);clear KJ Kx NC Mv KS hd;go_enter func23,ntmps23;go_wp2_with fail;obtain⟨w2,MV⟩:∃w2,w2=(w.alloc (.cells #[.int .i64 1, .int .i64 a, .int .i64 bb, .slice al nl cl] 27)).alloc (.cells #[.int .i64 0, .int .i64 0, .int .i64 0, .slice none 0 0] 32):=⟨_,rfl⟩;rw [<- MV]at HI HX HB Ky HD⊢;have HSZ:=V (show w2.heap.size=w.heap.size+1+1 by rw [MV];simp);clear MV;refine(pg _ D X b g J cap pre post t uv us u dZ [] [] lo f asks _ 0 rfl (by rw [bO];exact Ky.out) HD.out (eg.nil _) (by simp;omega) NM).mono ?_;rw [bO];rintro e w4 ⟨v',vv,rfl,Mb,Mt,LP,Nx⟩;obtain⟨r,hr⟩:∃r,(jo dZ [] ⟨dZ,lo++[f],asks⟩ lo f)=r:=⟨_,rfl⟩;rw [hr]at Mb LP⊢;have MH:=V hr;obtain⟨ON,OO,rfl,-,-⟩:=LP.slice;have MS:=V (HX.out.keeps Mt.1 (Ky.out.not HX.out (by omega) (by decide)));have Oh:=V Mb;have O0:=V Mt;have MB:=V LP;have O1:=V Nx;clear Mb Mt LP Nx hr;simp only [nd];obtain⟨⟨x0,x1,x2,x3⟩,z0,z1,z2,z3⟩:=MS.out.four;go_wp2_with fail;refine aM (ey rfl _ _ rfl (iD MS.out rfl r.1.kind r.1.oX r.1.fn (.slice ON r.1.dZ.length OO))) rfl ?_;rw [MH.out];exact fR.pass HB.out HX.out (by omega) (by omega) Ky.out Oh.out O0.out MB.out O1.out _ _ _ rfl rfl rfl
theorem Hk (w:World) (D X b g J cap:Nat) (pre post:List Value) (t:TypeId) (uv:Value) (us:List (Value × Value)) (u:Value × Value) (dZ:List fa) (lo:List eV) (f:eV) (asks:Int) (a:Int) (bb:Int) (al:Option Addr) (nl cl:Nat)
  (KS:fW w b pre post t ⟨uv, .slice (some ⟨g,0,none⟩) (lo.length+1) cap,us++[u]⟩ ⟨dZ,lo++[f],asks⟩) (hd:jT w D X b pre.length g (lo.length*5) J) (hn:dZ.length <=50000) (NM: -1 <=f.pc/\f.pc <=1000000):
  Calls prog 23 #[.pointer (some ⟨D,0,none⟩), .agg #[.int .i64 65, .int .i64 a, .int .i64 bb, .slice al nl cl]] w (fR b pre post t ⟨uv, .slice (some ⟨g,0,none⟩) (lo.length+1) cap,us++[u]⟩ (jo dZ [⟨1,a⟩] ⟨dZ,lo++[f],asks⟩ lo f) w):=by
 have KJ:=(an w.heap.size w).alloc (ag _) (.cells #[.int .i64 65, .int .i64 a, .int .i64 bb, .slice al nl cl] 27);have Kx:=KJ.alloc KJ.size (.cells #[.int .i64 0, .int .i64 0, .int .i64 0, .slice none 0 0] 32);have NC:=(eG.new w #[.int .i64 65, .int .i64 a, .int .i64 bb, .slice al nl cl] 27).alloc (.cells #[.int .i64 0, .int .i64 0, .int .i64 0, .slice none 0 0] 32);have Mv:=eG.new (w.alloc (.cells #[.int .i64 65, .int .i64 a, .int .i64 bb, .slice al nl cl] 27)) #[.int .i64 0, .int .i64 0, .int .i64 0, .slice none 0 0] 32;rw [aE]at Mv;have Lm:=KS.kf.lt;have HI:=V NC;have HX:=V Mv;have HB:=V Kx;have Ky:=V (KS.below Kx);have HD:=V (hd.below Kx);clear KJ Kx NC Mv KS hd;have y1:=HI.out.cell 1;simp only [aG,aF,aR]at y1;go_enter func23,ntmps23;go_wp2_with fail;obtain⟨w2,MV⟩:∃w2,w2=(w.alloc (.cells #[.int .i64 65, .int .i64 a, .int .i64 bb, .slice al nl cl] 27)).alloc (.cells #[.int .i64 0, .int .i64 0, .int .i64 0, .slice none 0 0] 32):=⟨_,rfl⟩;rw [<- MV]at HI HX HB Ky HD⊢;have HSZ:=V (show w2.heap.size=w.heap.size+1+1 by rw [MV];simp);clear MV;clear y1;have hb:=(an w2.heap.size w2).alloc (ag _) (.cells #[.int .i64 1, .int .i64 a] 42);have HP:=V (sR w2 1 a);replace HX:=V (HX.out.below hb HX.out.lt);replace HB:=V (HB.out.trans (hb.mono HB.out.size));replace Ky:=V (Ky.out.below hb);replace HD:=V (HD.out.below hb);clear hb;rw [HSZ.out]at HP;refine(pg _ D X b g J cap pre post t uv us u dZ [] [⟨1,a⟩] lo f asks _ 0 rfl (by rw [bO];exact Ky.out) HD.out HP.out (by simp;omega) NM).mono ?_;rw [bO];rintro e w4 ⟨v',vv,rfl,Mb,Mt,LP,Nx⟩;obtain⟨r,hr⟩:∃r,(jo dZ [⟨1,a⟩] ⟨dZ,lo++[f],asks⟩ lo f)=r:=⟨_,rfl⟩;rw [hr]at Mb LP⊢;have MH:=V hr;obtain⟨ON,OO,rfl,-,-⟩:=LP.slice;have MS:=V (HX.out.keeps Mt.1 (Ky.out.not HX.out (by omega) (by decide)));have Oh:=V Mb;have O0:=V Mt;have MB:=V LP;have O1:=V Nx;clear Mb Mt LP Nx hr;simp only [nd];obtain⟨⟨x0,x1,x2,x3⟩,z0,z1,z2,z3⟩:=MS.out.four;go_wp2_with fail;refine aM (ey rfl _ _ rfl (iD MS.out rfl r.1.kind r.1.oX r.1.fn (.slice ON r.1.dZ.length OO))) rfl ?_;rw [MH.out];exact fR.pass HB.out HX.out (by omega) (by omega) Ky.out Oh.out O0.out MB.out O1.out _ _ _ rfl rfl rfl
theorem Gl (w:World) (D X b g J cap:Nat) (pre post:List Value) (t:TypeId) (uv:Value) (us:List (Value × Value)) (u:Value × Value) (dZ:List fa) (lo:List eV) (f:eV) (asks:Int) (a:Int) (bb:Int) (al:Option Addr) (nl cl:Nat)
  (KS:fW w b pre post t ⟨uv, .slice (some ⟨g,0,none⟩) (lo.length+1) cap,us++[u]⟩ ⟨dZ,lo++[f],asks⟩) (hd:jT w D X b pre.length g (lo.length*5) J) (hn:dZ.length <=50000) (NM: -1 <=f.pc/\f.pc <=1000000):
  Calls prog 23 #[.pointer (some ⟨D,0,none⟩), .agg #[.int .i64 66, .int .i64 a, .int .i64 bb, .slice al nl cl]] w (fR b pre post t ⟨uv, .slice (some ⟨g,0,none⟩) (lo.length+1) cap,us++[u]⟩ (jo dZ [⟨2,a⟩] ⟨dZ,lo++[f],asks⟩ lo f) w):=by
 have KJ:=(an w.heap.size w).alloc (ag _) (.cells #[.int .i64 66, .int .i64 a, .int .i64 bb, .slice al nl cl] 27);have Kx:=KJ.alloc KJ.size (.cells #[.int .i64 0, .int .i64 0, .int .i64 0, .slice none 0 0] 32);have NC:=(eG.new w #[.int .i64 66, .int .i64 a, .int .i64 bb, .slice al nl cl] 27).alloc (.cells #[.int .i64 0, .int .i64 0, .int .i64 0, .slice none 0 0] 32);have Mv:=eG.new (w.alloc (.cells #[.int .i64 66, .int .i64 a, .int .i64 bb, .slice al nl cl] 27)) #[.int .i64 0, .int .i64 0, .int .i64 0, .slice none 0 0] 32;rw [aE]at Mv;have Lm:=KS.kf.lt;have HI:=V NC;have HX:=V Mv;have HB:=V Kx;have Ky:=V (KS.below Kx);have HD:=V (hd.below Kx);clear KJ Kx NC Mv KS hd;have y1:=HI.out.cell 1;simp only [aG,aF,aR]at y1;go_enter func23,ntmps23;go_wp2_with fail;obtain⟨w2,MV⟩:∃w2,w2=(w.alloc (.cells #[.int .i64 66, .int .i64 a, .int .i64 bb, .slice al nl cl] 27)).alloc (.cells #[.int .i64 0, .int .i64 0, .int .i64 0, .slice none 0 0] 32):=⟨_,rfl⟩;rw [<- MV]at HI HX HB Ky HD⊢;have HSZ:=V (show w2.heap.size=w.heap.size+1+1 by rw [MV];simp);clear MV;clear y1;have hb:=(an w2.heap.size w2).alloc (ag _) (.cells #[.int .i64 2, .int .i64 a] 42);have HP:=V (sR w2 2 a);replace HX:=V (HX.out.below hb HX.out.lt);replace HB:=V (HB.out.trans (hb.mono HB.out.size));replace Ky:=V (Ky.out.below hb);replace HD:=V (HD.out.below hb);clear hb;rw [HSZ.out]at HP;refine(pg _ D X b g J cap pre post t uv us u dZ [] [⟨2,a⟩] lo f asks _ 0 rfl (by rw [bO];exact Ky.out) HD.out HP.out (by simp;omega) NM).mono ?_;rw [bO];rintro e w4 ⟨v',vv,rfl,Mb,Mt,LP,Nx⟩;obtain⟨r,hr⟩:∃r,(jo dZ [⟨2,a⟩] ⟨dZ,lo++[f],asks⟩ lo f)=r:=⟨_,rfl⟩;rw [hr]at Mb LP⊢;have MH:=V hr;obtain⟨ON,OO,rfl,-,-⟩:=LP.slice;have MS:=V (HX.out.keeps Mt.1 (Ky.out.not HX.out (by omega) (by decide)));have Oh:=V Mb;have O0:=V Mt;have MB:=V LP;have O1:=V Nx;clear Mb Mt LP Nx hr;simp only [nd];obtain⟨⟨x0,x1,x2,x3⟩,z0,z1,z2,z3⟩:=MS.out.four;go_wp2_with fail;refine aM (ey rfl _ _ rfl (iD MS.out rfl r.1.kind r.1.oX r.1.fn (.slice ON r.1.dZ.length OO))) rfl ?_;rw [MH.out];exact fR.pass HB.out HX.out (by omega) (by omega) Ky.out Oh.out O0.out MB.out O1.out _ _ _ rfl rfl rfl
theorem CJ (w:World):Calls prog 42 #[.int .i64 1, .int .i64 5] w (jn (.agg #[.int .i64 1, .int .i64 5]) w):=by
 go_enter func42,ntmps42;go_wp2_with fail;exact aM (ey rfl _ _ rfl (eG.new w #[.int .i64 1, .int .i64 5] 42).mq) rfl ⟨rfl,(an _ _).alloc (ag _) _⟩
theorem Bl (w:World):Calls prog 139 #[.int .i64 1] w (jn (.int .i64 32) w):=by
 go_enter func139,ntmps139;go_wp2_with fail;go_ret;exact⟨rfl,an _ _⟩
theorem Et (w:World):Calls prog 136 #[.agg #[.int .i64 1, .int .i64 3]] w (jn (.int .u64 3) w):=by
 go_enter func136,ntmps136;go_wp2_with fail;go_ret;exact⟨rfl,(an _ _).alloc (ag _) _⟩
theorem zP (w:World) (a b c d:Int):Below w.heap.size w ((w.alloc (.cells #[.int .i64 a, .int .i64 b] 42)).alloc (.cells #[.int .i64 c, .int .i64 d] 42))/\
  eG ((w.alloc (.cells #[.int .i64 a, .int .i64 b] 42)).alloc (.cells #[.int .i64 c, .int .i64 d] 42)) w.heap.size #[.int .i64 a, .int .i64 b] 42/\
  eG ((w.alloc (.cells #[.int .i64 a, .int .i64 b] 42)).alloc (.cells #[.int .i64 c, .int .i64 d] 42)) (w.heap.size+1) #[.int .i64 c, .int .i64 d] 42:=by
 have hb:=(an w.heap.size w).alloc (ag _) (.cells #[.int .i64 a, .int .i64 b] 42);refine⟨hb.alloc hb.size _,(eG.new w _ _).alloc _,?_⟩;have:=eG.new (w.alloc (.cells #[.int .i64 a, .int .i64 b] 42)) #[.int .i64 c, .int .i64 d] 42
 rwa [aE]at this
theorem Ck (w:World):Calls prog 144 #[.int .i64 106, .agg #[.int .i64 1, .int .i64 2], .agg #[.int .i64 1, .int .i64 3]] w (jn (.int .i64 5) w):=by
 obtain⟨KW,ha0,L4⟩:=zP w 1 2 1 3;go_enter func144,ntmps144;go_wp2_with fail;generalize(w.alloc (.cells #[.int .i64 1, .int .i64 2] 42)).alloc (.cells #[.int .i64 1, .int .i64 3] 42)=w1 at KW ha0 L4⊢;refine(Bl w1).mono ?_;rintro e w2 ⟨rfl,hb⟩;replace ha0:=ha0.below hb ha0.lt;replace L4:=L4.below hb L4.lt;replace KW:=KW.trans (hb.mono KW.size);clear hb;obtain⟨x0,x1,-,-⟩:=L4.two;go_wp2_with fail;clear x0 x1;refine(Et w2).mono ?_;rintro e w3 ⟨rfl,hb⟩;replace ha0:=ha0.below hb ha0.lt;replace L4:=L4.below hb L4.lt;replace KW:=KW.trans (hb.mono KW.size);clear hb;obtain⟨x0,x1,-,-⟩:=L4.two;obtain⟨y0,y1,-,-⟩:=ha0.two;go_wp2_with fail;go_ret;exact⟨rfl,KW⟩
def A5 (X Y bl off:Nat) (w:World):Prop:=
 (w.cell? ⟨X,0,none⟩=some (.int .i64 1)/\w.cell? ⟨X,1,none⟩=some (.int .i64 2))/\(w.cell? ⟨Y,0,none⟩=some (.int .i64 1)/\w.cell? ⟨Y,1,none⟩=some (.int .i64 3))/\w.cell? ⟨bl,off,none⟩=some (.int .i64 1)/\w.cell? ⟨bl,off+1,none⟩=some (.int .i64 1)
theorem A5.below {X Y bl off:Nat} {w w':World} (h:A5 X Y bl off w) (hb:Below w.heap.size w w'):A5 X Y bl off w':=by
 obtain⟨⟨h1,h2⟩,⟨h3,h4⟩,h5,h6⟩:=h;have k:=(Ext.dW hb).1;exact⟨⟨k _ _ h1,k _ _ h2⟩,⟨k _ _ h3,k _ _ h4⟩,k _ _ h5,k _ _ h6⟩
theorem D4 (w:World):Calls prog 88 #[.int .i64 106, .agg #[.int .i64 1, .int .i64 2], .agg #[.int .i64 1, .int .i64 3]] w (jn (.tuple #[.agg #[.int .i64 1, .int .i64 5], .int .i64 0]) w):=by
 obtain⟨KW,ha0,L4⟩:=zP w 1 2 1 3;have HB:=V (KW.alloc KW.size (.cells #[.int .i64 0, .int .i64 0] 42));have HA:=V (ha0.alloc (.cells #[.int .i64 0, .int .i64 0] 42));have HC:=V (L4.alloc (.cells #[.int .i64 0, .int .i64 0] 42));have hx:=eG.new ((w.alloc (.cells #[.int .i64 1, .int .i64 2] 42)).alloc (.cells #[.int .i64 1, .int .i64 3] 42)) #[.int .i64 0, .int .i64 0] 42;simp only [aE]at hx;have HX:=V hx;clear KW ha0 L4 hx;go_enter func88,ntmps88;go_wp2_with fail;generalize((w.alloc (.cells #[.int .i64 1, .int .i64 2] 42)).alloc (.cells #[.int .i64 1, .int .i64 3] 42)).alloc (.cells #[.int .i64 0, .int .i64 0] 42)=w1 at HB HA HC HX⊢;refine(qb 106 w1 (w.heap.size+1+1) HX.out.lt).mono ?_;rintro e w2 ⟨kv,rfl,hl,hb⟩;have hk:eX 106=([1,1],1,true):=by decide+kernel
 rw [hk]at hl⊢;obtain⟨bl,off,cap,rfl,-,Lk,-,Mj⟩:=eg.at (i:=0) hl rfl;obtain⟨bl2,KZ,KA,he,-,-,-,Lj⟩:=eg.at (i:=1) hl rfl;injection he with Mi _ _;injection Mi with Mi;injection Mi with Mi Mu;subst Mi Mu;have k0:w2.cell? ⟨bl,off,none⟩=some (.int .i64 1):=(gl (Mj 0 _ rfl)).2;have Lm:bl≠w.heap.size+1+1:=by
  have:=(gl (Mj 0 _ rfl)).1;simpa using this
 have k1:w2.cell? ⟨bl,off+1,none⟩=some (.int .i64 1):=(gl (Lj 0 _ rfl)).2;replace HA:=V (HA.out.below hb HA.out.lt).drew;replace HC:=V (HC.out.below hb HC.out.lt).drew;replace HX:=V (HX.out.below hb HX.out.lt).drew;replace HB:=V (HB.out.trans (hb.mono HB.out.size)).drew;have hS:A5 w.heap.size (w.heap.size+1) bl off w2.drew:=⟨⟨HA.out.two.1,HA.out.two.2.1⟩,⟨HC.out.two.1,HC.out.two.2.1⟩,k0,k1⟩;have HS:=V hS;clear k0 k1 Mj Lj hl hb hk;go_wp2_with fail;refine ef (A5 w.heap.size (w.heap.size+1) bl off) (up 0 9 ((9,false)::up 10 4 ((14,false)::up 15 18 []))) (by kernel_rfl) (by kernel_rfl) hS ?_;clear hS;generalize w2.drew=w3 at HB HA HC HX HS⊢;iterate 9 (first | (apply sk rfl rfl;simp only [pt]) | (apply dV rfl rfl rfl;·(rintro w' ⟨⟨t0,t1⟩,⟨t2,t3⟩,t4,t5⟩;go_wp2;exact⟨rfl,rfl,rfl⟩)))
 refine ed rfl rfl ?_;go_wp2_with fail;refine(ni ⟨1,2⟩ w3).mono ?_;rintro e w4 ⟨rfl,hb⟩;have hm:decide (fa.may ⟨1,2⟩)=true:=by decide
 rw [hm];replace HA:=V (HA.out.below hb HA.out.lt);replace HC:=V (HC.out.below hb HC.out.lt);replace HX:=V (HX.out.below hb HX.out.lt);replace HB:=V (HB.out.trans (hb.mono HB.out.size));replace HS:=V (HS.out.below hb);clear hb hm;go_wp2_with fail;refine⟨HS.out,?_⟩;iterate 4 (first | (apply sk rfl rfl;simp only [pt]) | (apply dV rfl rfl rfl;·(rintro w' ⟨⟨t0,t1⟩,⟨t2,t3⟩,t4,t5⟩;go_wp2;exact⟨rfl,rfl,rfl⟩)))
 refine ed rfl rfl ?_;go_wp2_with fail;refine(ni ⟨1,3⟩ w4).mono ?_;rintro e w5 ⟨rfl,hb⟩;have hm:decide (fa.may ⟨1,3⟩)=true:=by decide
 rw [hm];replace HA:=V (HA.out.below hb HA.out.lt);replace HC:=V (HC.out.below hb HC.out.lt);replace HX:=V (HX.out.below hb HX.out.lt);replace HB:=V (HB.out.trans (hb.mono HB.out.size));replace HS:=V (HS.out.below hb);clear hb hm;go_wp2_with fail;refine⟨HS.out,?_⟩;iterate 18 (first | (apply sk rfl rfl;simp only [pt]) | (apply dV rfl rfl rfl;·(rintro w' ⟨⟨t0,t1⟩,⟨t2,t3⟩,t4,t5⟩;go_wp2;exact⟨rfl,rfl,rfl⟩)))
 refine eL ?_;refine aD ?_;go_wp2_with fail;refine(qu 106 w5).mono ?_;rintro e w6 ⟨rfl,hb⟩;have hk:sc 106=(1,106):=by decide+kernel
 rw [hk];replace HA:=V (HA.out.below hb HA.out.lt);replace HC:=V (HC.out.below hb HC.out.lt);replace HX:=V (HX.out.below hb HX.out.lt);replace HB:=V (HB.out.trans (hb.mono HB.out.size));replace HS:=V (HS.out.below hb);clear hb hk;go_wp2_with fail;refine(iH 106 109 112 w6).mono ?_;rintro e w7 ⟨rfl,hb⟩;have hk:lN 106 109 112=false:=by decide
 rw [hk];replace HA:=V (HA.out.below hb HA.out.lt).drew;replace HC:=V (HC.out.below hb HC.out.lt).drew;replace HX:=V (HX.out.below hb HX.out.lt).drew;replace HB:=V (HB.out.trans (hb.mono HB.out.size)).drew;have hS:=(HS.out.below hb).below (an _ _).drew;clear hb hk;go_wp2_with fail;refine ef (A5 w.heap.size (w.heap.size+1) bl off) (up 0 5 ((5,false)::(6,false)::(7,false)::(8,true)::[])) (by kernel_rfl) (by kernel_rfl) hS ?_;replace HS:=V hS;clear hS;generalize w7.drew=w8 at HB HA HC HX HS⊢;iterate 5 (first | (apply sk rfl rfl;simp only [pt]) | (apply dV rfl rfl rfl;·(rintro w' ⟨⟨t0,t1⟩,⟨t2,t3⟩,t4,t5⟩;go_wp2;exact⟨rfl,rfl,rfl⟩)))
 refine ed rfl rfl ?_;go_wp2_with fail;refine(Ck w8).mono ?_;rintro e w9 ⟨rfl,hb⟩;replace HX:=V (HX.out.below hb HX.out.lt);replace HB:=V (HB.out.trans (hb.mono HB.out.size));replace HS:=V (HS.out.below hb);clear hb;go_wp2_with fail;refine⟨HS.out,?_⟩;refine ed rfl rfl ?_;go_wp2_with fail;refine(CJ w9).mono ?_;rintro e w10 ⟨rfl,hb⟩;replace HX:=V (HX.out.below hb HX.out.lt);replace HB:=V (HB.out.trans (hb.mono HB.out.size));replace HS:=V (HS.out.below hb);clear hb;go_wp2_with fail;refine⟨HS.out,?_⟩;refine ed rfl rfl ?_;obtain⟨x0,x1,z0,z1⟩:=HX.out.two;go_wp2_with fail;have Kz:=fF w10 (w.heap.size+1+1) (.int .i64 1) (.int .i64 5);have NV:=HX.out.mP (.int .i64 1) (.int .i64 5);have hS:A5 w.heap.size (w.heap.size+1) bl off ((w10.setCell ⟨w.heap.size+1+1,0,none⟩ (.int .i64 1)).setCell ⟨w.heap.size+1+1,1,none⟩ (.int .i64 5)):=by
  obtain⟨⟨h1,h2⟩,⟨h3,h4⟩,h5,h6⟩:=HS.out;have key:∀{a:Addr} {v:Value},w10.cell? a=some v ->a.block≠w.heap.size+1+1 ->((w10.setCell ⟨w.heap.size+1+1,0,none⟩ (.int .i64 1)).setCell ⟨w.heap.size+1+1,1,none⟩ (.int .i64 5)).cell? a=some v:=
   fun ha Ma=>(Kz.cell (aT w10 _ ha) Ma).trans ha
  exact⟨⟨key h1 (by simp;omega),key h2 (by simp;omega)⟩,⟨key h3 (by simp),key h4 (by simp)⟩,key h5 Lm,key h6 Lm⟩
 refine⟨hS,?_⟩;have HL:=V NV.mq;have MX:=V (HB.out.trans (Kz.below HB.out.size (fun i hi=>by omega)));clear Kz NV x0 x1 z0 z1 hS;iterate 1 (first | (apply sk rfl rfl;simp only [pt]) | (apply dV rfl rfl rfl;·(rintro w' ⟨⟨t0,t1⟩,⟨t2,t3⟩,t4,t5⟩;go_wp2;exact⟨rfl,rfl,rfl⟩)))
 refine eL ?_;refine aD ?_;go_wp2_with fail;exact aM (fe rfl _ _ rfl HL.out) rfl ⟨rfl,MX.out⟩
end Go.Proofs.YthbjdhjppbcneaaGreatDoor
