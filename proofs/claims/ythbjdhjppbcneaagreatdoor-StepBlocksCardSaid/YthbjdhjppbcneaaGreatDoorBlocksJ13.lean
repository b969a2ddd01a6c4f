import Derived.Test.YthbjdhjppbcneaaGreatDoorBlocksJ12
namespace Go.Proofs.YthbjdhjppbcneaaGreatDoor
set_option maxRecDepth 100000
set_option maxHeartbeats 20000000
open Go.RowKit Tryz
open Lib renaming hid->V
set_option linter.all false
def ib:Ar ->List jb ->Option Ar
 | s,[]=>some s
 | s,x::l=>(iT s x.off x.funcs).bind fun s'=>ib s' l
theorem qp:∀(s:Ar) (l:List jb) (x:jb),ib s (l++[x])=(ib s l).bind fun s'=>iT s' x.off x.funcs
 | s,[],x=>by simp [ib]
 | s,y::l,x=>by
  simp only [bI,ib];cases iT s y.off y.funcs with
  | none=>rfl
  | some s'=>simp [qp s' l x]
theorem qq:∀{s:Ar} {l:List jb} {i:Nat},ib s (l.take i)=none ->ib s l=none
 | s,[],i,h=>by simpa using h
 | s,x::l,0,h=>by simp [ib]at h
 | s,x::l,i+1,h=>by
  simp only [List.take_succ_cons,ib]at h⊢;cases hx:iT s x.off x.funcs with
  | none=>rfl
  | some s'=>
   rw [hx]at h;exact qq (s:=s') (l:=l) (i:=i) h
def De (m:eI) (w:World) (e:Ending) (w':World):Prop:=
 Below w.heap.size w w'/\((iM m≠-1/\e= .returned (.tuple #[.pointer none, .int .i64 6]))\/(iM m= -1/\ib (gX m) m.elems=none/\e= .returned (.tuple #[.pointer none, .int .i64 3]))\/
  ∃X FX FM FSs iv sp,iM m= -1/\ib (gX m) m.elems=some sp/\e= .returned (.tuple #[.pointer (some ⟨X,0,none⟩), .int .i64 0])/\ju w' FX X iv m/\xM w' FM iv.vm (jy m.mem)/\Lk w' FSs iv.vs sp/\
   (∀g,FX g=true\/FM g=true\/FSs g=true ->w.heap.size <=g/\g < w'.heap.size)/\∀g,(FX g=true ->FM g=false/\FSs g=false)/\(FM g=true ->FSs g=false))
structure sZ (w0:World) (m:eI) (w:World) (X:Nat) (u:eL) (vm:Value) (Xs a s3 s4 s5:Nat) (sp:Ar):Prop where
 below:Below w0.heap.size w0 w
 ord:w0.heap.size <=a/\a <=s3/\s3 <=s4/\s4 <=s5/\X=s5/\s5 < w.heap.size
 mod:eD (mask (fun k=> !rQ a s3 k) w) u m
 km:eP w X (tA ⟨u,vm, .pointer (some ⟨Xs,0,none⟩), .slice none 0 0,[]⟩ m) 93
 mem:xM w (rQ s3 s4) vm (jy m.mem)
 space:n8 w s4 Xs sp
 xs:s4 <=Xs/\Xs < s5
theorem sZ.keeps {w0:World} {m:eI} {w w':World} {X:Nat} {u:eL} {vm:Value} {Xs a s3 s4 s5:Nat} {sp sp':Ar} {P:Nat ->Prop} (h:sZ w0 m w X u vm Xs a s3 s4 s5 sp) (hk:ee P w w') (hP:∀g,P g ->s4 <=g/\¬ g=X) (hs:n8 w' s4 Xs sp'):sZ w0 m w' X u vm Xs a s3 s4 s5 sp':=by
 obtain⟨o1,o2,o3,o4,o5,o6⟩:=h.ord;refine⟨h.below.trans (hk.below h.below.size (fun i hi=>by have:=(hP i hi).1;omega)),⟨o1,o2,o3,o4,o5,bK o6 hk.size⟩,h.mod.ext (iY hk (fun k _ hp=>?_) (fun k _ hp=>hp)),h.km.keeps hk (fun hx=>(hP X hx).2 rfl),h.mem.keeps hk (fun g hg=>?_),hs,h.xs⟩
 ·have:=(hP k hp).1
  simp [rQ];omega
 ·have:=(hP g hg).1
  simp [rQ];omega
theorem Ib {w:World} {B:Nat} {p:Value} {e:Option z8} (h:J1 w B p e):xM w (rQ B w.heap.size) p e:=by
 rcases h with h | ⟨x,X,h1,h2,⟨v,v',h3,h4,h5⟩,h6⟩
 ·exact .inl h
 ·exact .inr ⟨x,X,v,v',h1,h2,h3,h4.lower (bA _),h5.lower (bA _),lA.2 ⟨h6,h3.lt⟩,fun g hg=>lA.2 (eE h4 hg),fun g hg=>lA.2 (eE h5 hg)⟩
theorem n8.keeps {P:Nat ->Prop} {w w':World} {B X:Nat} {e:Ar} (h:n8 w B X e) (hX:B <=X) (hk:ee P w w') (hP:∀g,P g ->g < B\/w.heap.size <=g):n8 w' B X e:=by
 obtain⟨v,v',h1,h2,h3⟩:=h;have:=h1.lt;exact⟨v,v',h1.keeps hk (fun hp=>by have:=hP X hp;omega),h2.keeps hk (fun g hg hp=>by have:=eE h2 hg;have:=hP g hp;omega),h3.keeps hk (fun g hg hp=>by have:=eE h3 hg;have:=hP g hp;omega)⟩
def Dc (FM:Nat ->Bool) (p:Value) (e:Option z8) (w:World) (en:Ending) (w':World):Prop:=en= .returned (.tuple #[])/\xM w' FM p (e.map fun x=>{x with Co:=[]})/\ee (fun i=>FM i=true) w w'
theorem AR (w:World) (FM:Nat ->Bool) (p:Value) (e:Option z8) (h:xM w FM p e):Calls prog 33 #[p] w (Dc FM p e w):=by
 rcases h with⟨rfl,rfl⟩ | ⟨x,X,v,v',rfl,rfl,hx,hb,hd,h1,h2,h3⟩
 ·go_enter func33,ntmps33
  go_wp2_with fail
  go_end0
  exact⟨rfl, .inl ⟨rfl,rfl⟩,ee.refl _ _⟩
 ·have x2:w.cell? ⟨X,2,none⟩=some v':=hx.cell 2
  have z2:=hx.free 2;have HX:=V hx;have HB:=V hb;have H1:=V h1;have H2:=V h2;clear hb hd hx h1 h2 h3;go_enter func33,ntmps33;go_wp2_with fail
  go_end0
  have Lt:=eC w X 2 (.slice none 0 0);exact⟨rfl, .inr ⟨_,X,_,_,rfl,rfl,HX.out.set 2 (.slice none 0 0),HB.out.keeps Lt (eg.gK HB.out HX.out (by decide)),ea.nil _ _,H1.out,H2.out,fun g hg=>by simp [eH,Value.ownBlock]at hg⟩,Lt.mono (fun i hi=>by subst hi;exact H1.out)⟩
theorem yg (l:gf):(jy l).map (fun x=>{x with Co:=[]})=jy l:=by
 unfold jy;split <;>rfl
theorem n8.Ft {w:World} {B X:Nat} {xs:Array Value} {t:TypeId} (hx:eP w X xs t) (ht:t≠3):¬ GM w B X:=fun⟨_,_,hy⟩=>ht (hx.uniq hy)
theorem sZ.clean {w0:World} {m:eI} {w w':World} {X:Nat} {u:eL} {vm:Value} {Xs a s3 s4 s5:Nat} {sp:Ar} (h:sZ w0 m w X u vm Xs a s3 s4 s5 sp) (hk:ee (fun i=>rQ s3 s4 i=true) w w') (hm:xM w' (rQ s3 s4) vm (jy m.mem)):sZ w0 m w' X u vm Xs a s3 s4 s5 sp:=by
 obtain⟨o1,o2,o3,o4,o5,o6⟩:=h.ord;refine⟨h.below.trans (hk.below h.below.size (fun i hi=>by have:=lA.1 hi;omega)),⟨o1,o2,o3,o4,o5,bK o6 hk.size⟩,h.mod.ext (iY hk (fun k _ hp=>?_) (fun k _ hp=>hp)),h.km.keeps hk (fun hx=>by have:=lA.1 hx;omega),hm,h.space.keeps h.xs.1 hk (fun g hg=> .inl (lA.1 hg).2),h.xs⟩;have:=lA.1 hp;simp [rQ];omega
theorem vR {l:List eS} {i:Nat} {x:eS} {st Ob:List iR × List Nat} (h:fO l i x st=some Ob) (hp:∀b∈st.1,0 <=b.pos/\b.pos <=i):∀b∈Ob.1,0 <=b.pos/\b.pos <=i:=by
 have Pp:∀(k:Nat) (b b':iR),st.1[k]?=some b ->b'.pos=b.pos ->∀y∈st.1.set k b',0 <=y.pos/\y.pos <=i:=by
  intro k b b' hb he y hy;rcases dv hy with h1 | h1
  ·exact hp y h1
  ·rw [h1,he]
   exact hp b (aO hb)
 unfold fO at h;split at h
 ·split at h
  ·cases h
  ·injection h with h
   subst h;intro b hb;rcases aZ.1 hb with h1 | h1
   ·exact hp b h1
   ·rw [aQ.1 h1]
    exact⟨by simp,by simp⟩
 ·split at h
  ·injection h with h
   subst h;exact hp
  ·split at h
   ·cases h
   ·rename_i k hk
    split at h
    ·cases h
    ·rename_i b hb
     split at h
     ·injection h with h
      subst h;exact Pp k b _ hb rfl
     ·split at h
      ·cases h
      ·split at h
       ·cases h
       ·injection h with h
        subst h;exact Pp k b _ hb rfl
theorem sX (l:List eS):∀(rest:List eS) (i:Nat) (st Ob:List iR × List Nat),gH l rest i st=some Ob ->(∀b∈st.1,0 <=b.pos/\b.pos <=i) ->∀b∈Ob.1,0 <=b.pos/\b.pos <=i+rest.length
 | [],i,st,Ob,h,hp=>by
  simp only [gH,aX]at h;subst h;simpa using hp
 | x::rest,i,st,Ob,h,hp=>by
  simp only [gH]at h;cases hs:fO l i x st with
  | none=>rw [hs]at h;simp at h
  | some RQ=>
   rw [hs,az]at h;have h1:=vR hs hp;intro b hb;have:=sX l rest (i+1) RQ Ob h (fun b hb=>by have:=h1 b hb;omega) b hb;rw [aF];omega
theorem AL {l:List eS} {bs:List iR} (h:fI l=some bs):∀b∈bs,0 <=b.pos/\b.pos <=300:=by
 unfold fI at h;split at h
 ·cases h
 ·rename_i hl
  cases hg:gH l l 0 ([],[])with
  | none=>rw [hg]at h;simp at h
  | some st=>
   rw [hg,az]at h;split at h
   ·injection h with h
    subst h;intro b hb;have:=sX l l 0 _ _ hg (by simp) b hb;omega
   ·cases h
theorem fQ.new (w:World):fQ (w.alloc (.map #[] 0)) w.heap.size []:=⟨0,ag _,World.ownsMap_made _ _ _ _⟩
theorem zB {w w':World} {j:Nat} (h:w.grownBy w' (some j)):ee (fun g=>g=j) w w':=⟨h.os,h.tape,h.output,h.size,fun k hk hn=>h.block k hk (fun e=>hn (by injection e))⟩
theorem DZ:(prog.info? 72).map (fun i=>(i.zero,i.size,i.bytes))=some (some (.map none),1,8):=by kernel_rfl
structure xB (hi:Nat) (w:World) (X:Nat) (u:eL) (vm vs:Value) (m:eI) (vj:Value) (js:List Nat):Prop where
 km:eP w X (tA ⟨u,vm,vs,vj,js⟩ m) 93
 row:ea 72 1 Ag w hi vj js
 maps:∀(i j:Nat) (c:gS),js[i]?=some j ->m.eA[i]?=some c ->fQ w j (jf c)/\hi <=j
theorem fQ.gK {w:World} {j X:Nat} {l:List iR} {xs:Array Value} {t:TypeId} (h:fQ w j l) (hx:eP w X xs t):j≠X:=by
 obtain⟨_,_,es,clock,hb,_⟩:=h;intro e;subst e;have:=hx.symm.trans hb;injection this with this;cases this
theorem xB.more {hi:Nat} {w w1 w2 w3:World} {X:Nat} {u:eL} {vm vs:Value} {m:eI} {vj:Value} {js:List Nat} {j:Nat} {c:gS} {a2:Option Addr} {n2 c2:Nat} (h:xB hi w X u vm vs m vj js) (hb:Below w.heap.size w w1) (hj1:w.heap.size <=j) (hk:ee (fun g=>g=j) w1 w2) (hc:m.eA[js.length]?=some c) (hjm:fQ w2 j (jf c)) (hhi:hi <=w.heap.size)
  (ho:ea 72 1 Ag w3 hi (.slice a2 n2 c2) (js++[j])) (L5:ee (eH vj) w2 w3):xB hi (w3.setCell ⟨X,16,none⟩ (.slice a2 n2 c2)) X u vm vs m (.slice a2 n2 c2) (js++[j]):=by
 have QZ:=h.km.lt;have hXj:¬ X=j:=by omega
 have OX:=(h.km.below hb QZ).keeps hk hXj;have QL:ea 72 1 Ag w2 hi vj js:=(h.row.below hb).keeps hk (fun g hg e=>by have:=(eE h.row hg).2;omega);have hx3:=OX.keeps L5 (fun hg=>ea.gK QL OX (by decide) X hg rfl);have Lt:=eC w3 X 16 (.slice a2 n2 c2);have key:∀(j':Nat) (l:List iR),fQ w2 j' l ->fQ (w3.setCell ⟨X,16,none⟩ (.slice a2 n2 c2)) j' l:=fun j' l g=>by
  have g3:=g.keeps L5 (fun hg=>by
   obtain⟨cur,hcur⟩:=QL.has hg;exact g.gK hcur rfl)
  exact g3.keeps Lt (g3.gK hx3)
 refine⟨?_,ho.keeps Lt (ea.gK ho hx3 (by decide)),fun i j' c' hj' Na=>?_⟩
 ·have:=hx3.set 16 (.slice a2 n2 c2)
  simpa [tA] using this
 ·by_cases q:i < js.length
  ·rw [bm q]at hj'
   obtain⟨g1,g2⟩:=h.maps i j' c' hj' Na;exact⟨key j' _ ((g1.below hb).keeps hk (by have:=g1.lt;omega)),g2⟩
  ·have hi2:=(aM.1 hj').1
   rw [ah,aB]at hi2;obtain rfl:i=js.length:=by omega
   rw [bp (ag _),dk]at hj';simp only [aG,aX]at hj';subst hj';rw [hc]at Na;injection Na with Na;subst Na;exact⟨key j _ hjm,by omega⟩
theorem mm (m:eI) (u:eL) (w:World) (hm:eD w u m) (hs:m.words) (he:∀c∈m.eA,∀x∈c.body,x.mE) (hn:m.imports.length+m.funcs.length <=1000000) (hd:m.eK=[]):Calls prog 9 #[.agg (u.cells m)] w (De m w):=by
 have HI:=V hm;have HWD:=V hs;have HE:=V he;have HND:=V hd;obtain⟨a0,c0,a1,c1,a2,c2,a3,c3,a4,c4,a5,c5,a6,c6,a7,c7,rfl⟩:=eD.open hm;simp only [eL.cells];clear hm hs he hd;have HX:=V (eP.new w #[.slice a0 m.types.length c0, .slice a1 m.imports.length c1, .slice a2 m.funcs.length c2, .bool m.table.has, .int .i64 m.table.min, .int .i64 m.table.max, .bool m.mem.has, .int .i64 m.mem.min, .int .i64 m.mem.max, .slice a3 m.globals.length c3, .slice a4 m.ep.length c4, .slice a5 m.elems.length c5, .slice a6 m.eA.length c6, .slice a7 m.eK.length c7] 62);have HS:=V ((an w.heap.size w).alloc (ag _) (.cells #[.slice a0 m.types.length c0, .slice a1 m.imports.length c1, .slice a2 m.funcs.length c2, .bool m.table.has, .int .i64 m.table.min, .int .i64 m.table.max, .bool m.mem.has, .int .i64 m.mem.min, .int .i64 m.mem.max, .slice a3 m.globals.length c3, .slice a4 m.ep.length c4, .slice a5 m.elems.length c5, .slice a6 m.eA.length c6, .slice a7 m.eK.length c7] 62));go_enter func9,ntmps9;go_wp2_with fail;refine(pZ m ⟨.slice a0 m.types.length c0, .slice a1 m.imports.length c1, .slice a2 m.funcs.length c2, .slice a3 m.globals.length c3, .slice a4 m.ep.length c4, .slice a5 m.elems.length c5, .slice a6 m.eA.length c6, .slice a7 m.eK.length c7⟩ _ (eD.below HI.out HS.out) HWD.out hn HE.out).mono ?_;rintro e w1 ⟨rfl,hb⟩;replace HX:=V (HX.out.below hb HX.out.lt);replace HS:=V (HS.out.trans (hb.mono HS.out.size));clear hb;by_cases hv:iM m= -1;rotate_left
 ·have f1:decide (iM m= -1)=false:=aq hv
  have HV:=V hv;rw [f1];clear hv;go_wp2_with fail
  go_ret2
  exact⟨HS.out, .inl ⟨HV.out,rfl⟩⟩
 have M8:m.may:=by
  by_cases q:m.may
  ·exact q
  ·exfalso
   rw [iM,aJ (aq q)]at hv;exact absurd hv (by decide)
 have Nz:=V M8;have HV:=V hv;have htb:m.table.has=true ->0 <=m.table.min/\m.table.min <=1000:=fun h=>by
  have h1:=M8.1.2.2.1;unfold gf.may at h1;simp only [h]at h1;simp at h1;omega
 have hgl:m.globals.length <=1000:=by
  have h1:=M8.1.2.1.2.1.1;omega
 have hel16:m.elems.length <=16:=M8.1.2.1.2.2.2.1.1;have hco16:m.eA.length <=16:=M8.1.1.2.1;have PU:=V htb;rw [hv];clear hv M8 htb;have ht:=HX.out.drew.mod;go_wp2_with fail;refine eu (fun w'=>w'.cell? ⟨w.heap.size,0,none⟩=some (.slice a0 m.types.length c0)/\w'.cell? ⟨w.heap.size,1,none⟩=some (.slice a1 m.imports.length c1)/\w'.cell? ⟨w.heap.size,2,none⟩=some (.slice a2 m.funcs.length c2)/\w'.cell? ⟨w.heap.size,3,none⟩=some (.bool m.table.has)/\w'.cell? ⟨w.heap.size,4,none⟩=some (.int .i64 m.table.min)/\w'.cell? ⟨w.heap.size,5,none⟩=some (.int .i64 m.table.max)/\w'.cell? ⟨w.heap.size,6,none⟩=some (.bool m.mem.has)/\w'.cell? ⟨w.heap.size,7,none⟩=some (.int .i64 m.mem.min)/\w'.cell? ⟨w.heap.size,8,none⟩=some (.int .i64 m.mem.max)/\w'.cell? ⟨w.heap.size,9,none⟩=some (.slice a3 m.globals.length c3)/\w'.cell? ⟨w.heap.size,10,none⟩=some (.slice a4 m.ep.length c4)/\w'.cell? ⟨w.heap.size,11,none⟩=some (.slice a5 m.elems.length c5)/\w'.cell? ⟨w.heap.size,12,none⟩=some (.slice a6 m.eA.length c6)/\w'.cell? ⟨w.heap.size,13,none⟩=some (.slice a7 m.eK.length c7)) [(0,true),(2,true),(3,true),(5,true),(1,false),(4,false),(6,false),(7,true),(8,false),(9,true)] (by kernel_rfl) (by kernel_rfl) ht ?_;clear ht;replace HX:=V HX.out.drew;replace HS:=V HS.out.drew;generalize w1.drew=w2 at HX HS⊢;iterate 4 (first | (apply sk rfl rfl;simp only [pt]) | (apply ef rfl rfl rfl;·(rintro w' ⟨t0,t1,t2,t3,t4,t5,t6,t7,t8,t9,t10,t11,t12,t13⟩;go_wp2;exact⟨rfl,rfl,rfl⟩)))
 refine eo rfl rfl ?_;go_wp2_with fail;refine(Bl m ⟨.slice a0 m.types.length c0, .slice a1 m.imports.length c1, .slice a2 m.funcs.length c2, .slice a3 m.globals.length c3, .slice a4 m.ep.length c4, .slice a5 m.elems.length c5, .slice a6 m.eA.length c6, .slice a7 m.eK.length c7⟩ w2 (eD.below HI.out HS.out) HWD.out Nz.out).mono ?_;rintro e w3 ⟨u',rfl,hu,hb⟩;have s2:=HX.out.lt;replace HX:=V (HX.out.below hb HX.out.lt);replace HS:=V (HS.out.trans (hb.mono HS.out.size));have s23:=hb.size;obtain⟨b0,k0,b1,k1,b2,k2,b3,k3,b4,k4,b5,k5,b6,k6,b7,k7,rfl⟩:=eD.open hu;simp only [eL.cells];have HU:=V hu;clear hu hb;go_wp2_with fail;refine⟨HX.out.mod,?_⟩;refine eo rfl rfl ?_;go_wp2_with fail;refine(BM m.mem w3).mono ?_;rintro e w4 ⟨hb,hme⟩;obtain⟨vm,rfl,hp⟩:∃vm,e= .returned vm/\J1 w4 w3.heap.size vm (jy m.mem):=by
  rcases hme with⟨h1,rfl⟩ | ⟨x,X,h1,rfl,h2,h3⟩
  ·exact⟨_,rfl, .inl ⟨h1,rfl⟩⟩
  ·exact⟨_,rfl, .inr ⟨x,X,h1,rfl,h2,h3⟩⟩
 obtain⟨pm,hpm⟩:∃pm,vm= .pointer pm:=by
  rcases hp with⟨-,h⟩ | ⟨_,X,-,h,-⟩
  ·exact⟨_,h⟩
  ·exact⟨_,h⟩
 subst hpm;have s34:=hb.size;replace HX:=V (HX.out.below hb HX.out.lt);replace HS:=V (HS.out.trans (hb.mono HS.out.size));have HMP:=V hp;have HB34:=V hb;clear hb hme hp;go_wp2_with fail;refine⟨HX.out.mod,?_⟩;refine eo rfl rfl ?_;go_wp2_with fail;refine(yk m ⟨.slice a0 m.types.length c0, .slice a1 m.imports.length c1, .slice a2 m.funcs.length c2, .slice a3 m.globals.length c3, .slice a4 m.ep.length c4, .slice a5 m.elems.length c5, .slice a6 m.eA.length c6, .slice a7 m.eK.length c7⟩ w4 (eD.below HI.out HS.out) PU.out hgl).mono ?_;rintro e w5 ⟨Xs,rfl,Rw,hXs,hb⟩;have s45:=hb.size;replace HX:=V (HX.out.below hb HX.out.lt);replace HS:=V (HS.out.trans (hb.mono HS.out.size));have Rx:=V Rw;have HB45:=V hb;have QZ:Xs < w5.heap.size:=by obtain⟨_,_,h,_⟩:=Rw;exact h.lt
 clear hb Rw;go_wp2_with fail;refine⟨HX.out.mod,?_⟩;iterate 1 (first | (apply sk rfl rfl;simp only [pt]) | (apply ef rfl rfl rfl;·(rintro w' ⟨t0,t1,t2,t3,t4,t5,t6,t7,t8,t9,t10,t11,t12,t13⟩;go_wp2;exact⟨rfl,rfl,rfl⟩)))
 refine eo rfl rfl ?_;have hb:=(an w5.heap.size w5).alloc (ag _) (.cells #[.slice b0 m.types.length k0, .slice b1 m.imports.length k1, .slice b2 m.funcs.length k2, .bool m.table.has, .int .i64 m.table.min, .int .i64 m.table.max, .bool m.mem.has, .int .i64 m.mem.min, .int .i64 m.mem.max, .slice b3 m.globals.length k3, .slice b4 m.ep.length k4, .slice b5 m.elems.length k5, .slice b6 m.eA.length k6, .slice b7 m.eK.length k7, .pointer pm, .pointer (some ⟨Xs,0,none⟩), .slice none 0 0] 93);have hxx:=eP.new w5 #[.slice b0 m.types.length k0, .slice b1 m.imports.length k1, .slice b2 m.funcs.length k2, .bool m.table.has, .int .i64 m.table.min, .int .i64 m.table.max, .bool m.mem.has, .int .i64 m.mem.min, .int .i64 m.mem.max, .slice b3 m.globals.length k3, .slice b4 m.ep.length k4, .slice b5 m.elems.length k5, .slice b6 m.eA.length k6, .slice b7 m.eK.length k7, .pointer pm, .pointer (some ⟨Xs,0,none⟩), .slice none 0 0] 93;have HN:=V (show sZ w m _ w5.heap.size ⟨.slice b0 m.types.length k0, .slice b1 m.imports.length k1, .slice b2 m.funcs.length k2, .slice b3 m.globals.length k3, .slice b4 m.ep.length k4, .slice b5 m.elems.length k5, .slice b6 m.eA.length k6, .slice b7 m.eK.length k7⟩ (.pointer pm) Xs w2.heap.size w3.heap.size w4.heap.size w5.heap.size (gX m)from
  ⟨HS.out.trans (hb.mono HS.out.size),⟨Nat.le_of_lt s2,s23,s34,s45,rfl,hxx.lt⟩,
   HU.out.ext (iY ((ee.eh (S:=fun _=>False) HB34.out).trans ((ee.eh (S:=fun _=>False) HB45.out).trans (ee.eh (S:=fun _=>False) hb) (fun _ h=>h.elim)) (fun _ h=>h.elim)) (fun _ _ h=>h.elim) (fun i hi h=>by simp [rQ,kX]at h⊢;omega)),
   hxx,(Ib HMP.out).keeps (P:=fun _=>False) ((ee.eh HB45.out).trans (ee.eh (S:=fun _=>False) hb) (fun _ h=>h.elim)) (fun _ h=>h.elim),n8.keeps (P:=fun _=>False) Rx.out hXs (ee.eh hb) (fun _ h=>h.elim),hXs,QZ⟩)
 replace HX:=V (HX.out.below hb HX.out.lt);clear hb hxx HMP Rx HB34 HB45 HU HS;go_wp2_with fail;generalize w5.alloc (.cells #[.slice b0 m.types.length k0, .slice b1 m.imports.length k1, .slice b2 m.funcs.length k2, .bool m.table.has, .int .i64 m.table.min, .int .i64 m.table.max, .bool m.mem.has, .int .i64 m.mem.min, .int .i64 m.mem.max, .slice b3 m.globals.length k3, .slice b4 m.ep.length k4, .slice b5 m.elems.length k5, .slice b6 m.eA.length k6, .slice b7 m.eK.length k7, .pointer pm, .pointer (some ⟨Xs,0,none⟩), .slice none 0 0] 93)=w6 at HX HN⊢;refine⟨HX.out.mod,?_⟩;iterate 1 (first | (apply sk rfl rfl;simp only [pt]) | (apply ef rfl rfl rfl;·(rintro w' ⟨t0,t1,t2,t3,t4,t5,t6,t7,t8,t9,t10,t11,t12,t13⟩;go_wp2;exact⟨rfl,rfl,rfl⟩)))
 refine eV ?_;refine aD ?_;clear HX s2 s23 s34 s45 hXs QZ;generalize w2.heap.size=a at HN;generalize w3.heap.size=s3 at HN;generalize w4.heap.size=s4 at HN;generalize w5.heap.size=X at HN⊢;have x11:w6.cell? ⟨X,11,none⟩=some (.slice b5 m.elems.length k5):=HN.out.km.cell 11;go_wp2_with fail;clear x11;refine eJ (fun a' w'=>∃(i:Nat) (sp:Ar),a'=fr (gs a' 0 6 (.pointer (some ⟨X,0,none⟩)::gs a' 7 33 (.slice b5 m.elems.length k5:: .int .i64 m.elems.length:: .int .i64 i::gs a' 43 108 [])))/\i <=m.elems.length/\ib (gX m) (m.elems.take i)=some sp/\sZ w m w' X ⟨.slice b0 m.types.length k0, .slice b1 m.imports.length k1, .slice b2 m.funcs.length k2, .slice b3 m.globals.length k3, .slice b4 m.ep.length k4, .slice b5 m.elems.length k5, .slice b6 m.eA.length k6, .slice b7 m.eK.length k7⟩ (.pointer pm) Xs a s3 s4 X sp) (fun a' _=>(m.elems.length - (intOf (a'.tmps.getD 42 undef)).toNat)) ?_ ?_
 ·exact⟨0,gX m,rfl,bA _,rfl,HN.out⟩
 ·skip
  rintro R a' w1 ⟨i,sp,Lp,hJ⟩ HR;dsimp only [fr,gs]at Lp;generalize slot a'=f at Lp;subst Lp;obtain⟨hi,hel,hnw⟩:=hJ;have HEL:=V hel;have HNW:=V hnw;clear hel hnw HN;by_cases q:i < m.elems.length
  ·obtain⟨e,he⟩:∃e,m.elems[i]?=some e:=⟨_,aw q⟩
   obtain⟨be,offe,cape,ue,Mx,-,-,hbel,LN,Mh⟩:=et.at HNW.out.mod.2.2.2.2.2.1 he;injection Mx with e1 e2 e3;subst e1 e3;obtain⟨af,cf,hfe,-,hcfm⟩:=Mh.1.sl;have y0:w1.cell? ⟨be,offe+i*2,none⟩=some (.int .i64 e.off):=by
    have:=(gg (LN 0 _ rfl)).2
    rwa [aK]at this
   have y1:w1.cell? ⟨be,offe+i*2+1,none⟩=some (.slice af e.funcs.length cf):=by
    rw [<- hfe];exact(gg (LN 1 _ rfl)).2
   have HEE:=V he;have MQ:=(an w1.heap.size w1).alloc (ag _) (.cells #[.int .i64 e.off, .slice af e.funcs.length cf] 95);have Ms:=V MQ;have NQ:=V (eP.new w1 #[.int .i64 e.off, .slice af e.funcs.length cf] 95).drew;have HF:=V (show ew 1 fp w1 (.slice af e.funcs.length cf) e.funcs by rw [<- hfe];exact Mh.1.gh);have LD:=V ((HNW.out.km.alloc (.cells #[.int .i64 e.off, .slice af e.funcs.length cf] 95)).drew);have OS:World.cell? _ ⟨X,15,none⟩=some (.pointer (some ⟨Xs,0,none⟩)):=LD.out.cell 15;have v0:World.cell? _ ⟨w1.heap.size,0,none⟩=some (.int .i64 e.off):=NQ.out.cell 0;have v1:World.cell? _ ⟨w1.heap.size,1,none⟩=some (.slice af e.funcs.length cf):=NQ.out.cell 1;clear he LN Mh hfe e2 hbel MQ;go_wp2_with fail;refine eu (fun w'=>w'.cell? ⟨X,15,none⟩=some (.pointer (some ⟨Xs,0,none⟩))/\w'.cell? ⟨w1.heap.size,0,none⟩=some (.int .i64 e.off)/\w'.cell? ⟨w1.heap.size,1,none⟩=some (.slice af e.funcs.length cf)) (up 0 8 ((8,false)::(9,true)::[])) (by kernel_rfl) (by kernel_rfl) ⟨OS,v0,v1⟩ ?_;clear OS v0 v1 y0 y1;have HNA:=V (HNW.out.keeps (P:=fun _=>False) (ee.eh Ms.out.drew) (fun _ h=>h.elim) (n8.keeps (P:=fun _=>False) HNW.out.space HNW.out.xs.1 (ee.eh Ms.out.drew) (fun _ h=>h.elim)));have HF2:=V (HF.out.ext (Ext.eh Ms.out.drew));clear HNW HF Ms;generalize(w1.alloc (.cells #[.int .i64 e.off, .slice af e.funcs.length cf] 95)).drew=w7 at HNA HF2 LD NQ⊢;iterate 8 (first | (apply sk rfl rfl;simp only [pt]) | (apply ef rfl rfl rfl;·(rintro w' ⟨t0,t1,t2⟩;go_wp2;exact⟨rfl,rfl,rfl⟩)))
   refine eo rfl rfl ?_;go_wp2_with fail;refine(xV w7 s4 Xs sp (.slice af e.funcs.length cf) e.off e.funcs HNA.out.space HF2.out).mono ?_;rintro en w8 ⟨rfl,hs8,NU⟩;have Q8:=n8.Ft (B:=s4) LD.out (by decide);have hEn:=n8.Ft (B:=s4) NQ.out (by decide);have HX8:=V (LD.out.keeps NU Q8);have HE8:=V (NQ.out.keeps NU hEn);have HN8:=V (HNA.out.keeps NU (fun g hg=>⟨hg.1,fun e=>by subst e;exact Q8 hg⟩) hs8);clear Q8 hEn hs8 NU HNA LD NQ;obtain⟨r,hr⟩:∃r,iT sp e.off e.funcs=r:=⟨_,rfl⟩;rw [hr]at HN8⊢;have HT:=V (show ib (gX m) (m.elems.take (i+1))=r by rw [aR,HEE.out,Option.toList_some,qp,HEL.out];exact hr);clear hr;cases r with
   | none=>
    simp only [Option.isSome_none];go_wp2_with fail;refine⟨⟨HX8.out.cell 15,HE8.out.cell 0,HE8.out.cell 1⟩,?_⟩;iterate 1 (first | (apply sk rfl rfl;simp only [pt]) | (apply ef rfl rfl rfl;·(rintro w' ⟨t0,t1,t2⟩;go_wp2;exact⟨rfl,rfl,rfl⟩)))
    refine eV ?_;refine aD ?_;go_wp2_with fail
    go_ret2
    exact⟨HN8.out.below, .inr (.inl ⟨HV.out,qq HT.out,rfl⟩)⟩
   | some sp2=>
    simp only [Option.isSome_some];go_wp2_with fail;refine⟨⟨HX8.out.cell 15,HE8.out.cell 0,HE8.out.cell 1⟩,?_⟩;iterate 1 (first | (apply sk rfl rfl;simp only [pt]) | (apply ef rfl rfl rfl;·(rintro w' ⟨t0,t1,t2⟩;go_wp2;exact⟨rfl,rfl,rfl⟩)))
    refine eV ?_;refine aD ?_;go_wp2_with fail;refine HR.out _ _ ⟨i+1,sp2,rfl,by omega,HT.out,HN8.out⟩ ?_;simp [intOf];omega
  ·obtain rfl:i=m.elems.length:=by omega
   rw [aV]at HEL;have hdl:m.eK.length=0:=by rw [HND.out];rfl
   have x13:w1.cell? ⟨X,13,none⟩=some (.slice b7 m.eK.length k7):=HNW.out.km.cell 13;rw [hdl]at x13;have x14:w1.cell? ⟨X,14,none⟩=some (.pointer pm):=HNW.out.km.cell 14;clear hdl HR q;go_wp2_with fail;clear x13;refine c9 1 ?_;rw [cO];go_wp2_with fail;clear x14;refine(AR w1 (rQ s3 s4) (.pointer pm) (jy m.mem) HNW.out.mem).mono ?_;rintro en w7 ⟨rfl,hm7,hk7⟩;rw [yg]at hm7;have Sh:=V (HNW.out.clean hk7 hm7);clear hm7 hk7 HNW;have HJ:=V (show xB w7.heap.size w7 X ⟨.slice b0 m.types.length k0, .slice b1 m.imports.length k1, .slice b2 m.funcs.length k2, .slice b3 m.globals.length k3, .slice b4 m.ep.length k4, .slice b5 m.elems.length k5, .slice b6 m.eA.length k6, .slice b7 m.eK.length k7⟩ (.pointer pm) (.pointer (some ⟨Xs,0,none⟩)) m (.slice none 0 0) []from
    ⟨Sh.out.km,ea.nil _ _,fun i j c h=>by simp at h⟩)
   have x12:w7.cell? ⟨X,12,none⟩=some (.slice b6 m.eA.length k6):=Sh.out.km.cell 12;go_wp2_with fail;clear x12;refine eJ (fun a' w'=>∃(k:Nat) (vj:Value) (js:List Nat),a'=fr (gs a' 0 6 (.pointer (some ⟨X,0,none⟩)::gs a' 7 108 (.slice b6 m.eA.length k6:: .int .i64 m.eA.length:: .int .i64 k::gs a' 118 33 [])))/\(k <=m.eA.length/\js.length=k)/\xB w7.heap.size w' X ⟨.slice b0 m.types.length k0, .slice b1 m.imports.length k1, .slice b2 m.funcs.length k2, .slice b3 m.globals.length k3, .slice b4 m.ep.length k4, .slice b5 m.elems.length k5, .slice b6 m.eA.length k6, .slice b7 m.eK.length k7⟩ (.pointer pm) (.pointer (some ⟨Xs,0,none⟩)) m vj js/\ee (fun i=>i=X) w7 w') (fun a' _=>(m.eA.length - (intOf (a'.tmps.getD 117 undef)).toNat)) ?_ ?_
   ·exact⟨0,_,[],rfl,⟨bA _,rfl⟩,HJ.out,ee.refl _ _⟩
   ·clear HJ
    rintro R a' w8 ⟨k,vj,js,Lp,hJ⟩ HR;dsimp only [fr,gs]at Lp;generalize slot a'=f at Lp;subst Lp;obtain⟨⟨hk,hjl⟩,hj,NU⟩:=hJ;subst hjl;have HJ:=V hj;have HK:=V NU;have HN8:=V (Sh.out.mod.ext (iY (S':=fun i=> !rQ a s3 i) NU (fun i _ hp=>by have:=Sh.out.ord;subst hp;simp [rQ];omega) (fun _ _ h=>h)));clear hj NU;by_cases q:js.length < m.eA.length;rotate_left
    ·have hjl:js.length=m.eA.length:=by omega
     go_wp2_with fail
     go_ret2
     obtain⟨o1,o2,o3,o4,o5,o6⟩:=Sh.out.ord;have h78:=HK.out.size;have Q8:X < w8.heap.size:=by omega
     have hFX:∀g,(rQ a s3 g || decide (g=X) || rQ w7.heap.size w8.heap.size g)=true↔(a <=g/\g < s3)\/g=X\/(w7.heap.size <=g/\g < w8.heap.size):=fun g=>by simp [rQ,or_assoc]
     have hFS:∀g,(rQ s4 w7.heap.size g&& !decide (g=X))=true↔(s4 <=g/\g < w7.heap.size)/\g≠X:=fun g=>by simp [rQ]
     obtain⟨v,v',p1,p2,p3⟩:=Sh.out.space;have Ri:=Sh.out.xs;refine⟨Sh.out.below.trans (HK.out.below Sh.out.below.size (fun g hg=>by omega)), .inr (.inr ⟨X,fun g=>rQ a s3 g || decide (g=X) || rQ w7.heap.size w8.heap.size g,rQ s3 s4,fun g=>rQ s4 w7.heap.size g&& !decide (g=X),_,sp,HV.out,HEL.out,rfl,⟨HJ.out.km,(hFX X).2 (.inr (.inl rfl)),HN8.out.ext (iY (P:=fun _=>False) (ee.refl _ _) (fun _ _ h=>h.elim) (fun g _ hg=>?_)),HJ.out.row.lower (bA _),fun g hg=>(hFX g).2 (.inr (.inr (eE HJ.out.row hg))),fun i j c hj hc=>?_,hjl,fun g hg=>?_⟩,
      Sh.out.mem.keeps HK.out (fun g hg=>?_),⟨Xs,v,v',rfl,p1.keeps HK.out (by omega),(p2.lower (bA _)).keeps HK.out (fun g hg e=>ea.gK p2 Sh.out.km (by decide) g hg e),(p3.lower (bA _)).keeps HK.out (fun g hg e=>ea.gK p3 Sh.out.km (by decide) g hg e),(hFS Xs).2 ⟨⟨Ri.1,p1.lt⟩,by omega⟩,
       fun g hg=>(hFS g).2 ⟨eE p2 hg,ea.gK p2 Sh.out.km (by decide) g hg⟩,fun g hg=>(hFS g).2 ⟨eE p3 hg,ea.gK p3 Sh.out.km (by decide) g hg⟩⟩,fun g hg=>?_,fun g=>⟨fun h1=>⟨?_,?_⟩,fun h1=>?_⟩⟩)⟩
     ·cases hr:rQ a s3 g with
      | false=>rfl
      | true=>simp [hr]at hg
     ·obtain⟨h1,h2⟩:=HJ.out.maps i j c hj hc
      exact⟨h1,(hFX j).2 (.inr (.inr ⟨h2,h1.lt⟩))⟩
     ·rcases(hFX g).1 hg with h1 | h1 | h1 <;>omega
     ·cases hr:rQ s3 s4 g with
      | false=>rfl
      | true=>have:=lA.1 hr;omega
     ·rcases hg with h1 | h1 | h1
      ·rcases(hFX g).1 h1 with h1 | h1 | h1 <;>omega
      ·have:=lA.1 h1;omega
      ·have:=(hFS g).1 h1;omega
     ·cases hr:rQ s3 s4 g with
      | false=>rfl
      | true=>have:=lA.1 hr;rcases(hFX g).1 h1 with h1 | h1 | h1 <;>omega
     ·cases hr:(rQ s4 w7.heap.size g&& !decide (g=X))with
      | false=>exact hr
      | true=>have:=(hFS g).1 hr;rcases(hFX g).1 h1 with h1 | h1 | h1 <;>omega
     ·have:=lA.1 h1
      cases hr:(rQ s4 w7.heap.size g&& !decide (g=X))with
      | false=>exact hr
      | true=>have:=(hFS g).1 hr;omega
    ·obtain⟨c,hc⟩:∃c,m.eA[js.length]?=some c:=⟨_,aw q⟩
     obtain⟨bc,PV,capc,⟨uc1,uc2⟩,Mx,-,-,hbcl,LN,Mh⟩:=et.at HN8.out.2.2.2.2.2.2.1 hc;injection Mx with e1 e2 e3;subst e1 e3;obtain⟨al,cl,hle,-,Ry⟩:=Mh.1.1.sl;obtain⟨ab,cb,Ql,-,hcbm⟩:=et.slice Mh.1.2;simp only at hle Ql;have y0:w8.cell? ⟨bc,PV+js.length*2,none⟩=some (.slice al c.locals.length cl):=by
      have:=(gg (LN 0 _ rfl)).2;rw [<- hle]
      rwa [aK]at this
     have y1:w8.cell? ⟨bc,PV+js.length*2+1,none⟩=some (.slice ab c.body.length cb):=by
      rw [<- Ql];exact(gg (LN 1 _ rfl)).2
     have Qq:=V (show gx w8 (.slice ab c.body.length cb) c.body by rw [<- Ql];exact gx.gh Mh.1.2);have HCC:=V hc;have HME:=V ((Nz.out.1.1.2.2 c (aO hc)).1);have MQ:=(an w8.heap.size w8).alloc (ag _) (.cells #[.slice al c.locals.length cl, .slice ab c.body.length cb] 69);have v1:=(eP.new w8 #[.slice al c.locals.length cl, .slice ab c.body.length cb] 69).two.2.1;have Ms:=V MQ;have HRO:=HR;clear hc LN Mh hle Ql e2 hbcl MQ HR;go_wp2_with fail;clear y0 y1 v1;refine(pW _ c.body _ (Qq.out.below Ms.out)).mono ?_;rintro en w10 ⟨hb,⟨bs,vb,Qo,rfl,Mg⟩ | ⟨Qo,-⟩⟩;rotate_left
     ·have:=HME.out
      rw [Qo]at this;cases this
     obtain⟨av,cv,rfl,hcv1,hcvm⟩:=Mg.slice;have HMS:=V Qo;have HB10:=V (Ms.out.trans (hb.mono Ms.out.size));have hbm:=(an w10.heap.size w10).alloc (ag _) (.map #[] 0);have HBM:=V hbm;have HBO:=V (Mg.below hbm);have HJM:=V (fQ.new w10);have Pq:=fun wx=>run_makeMap (P:=prog) 72 wx;have hvo:=V (fun g (hg:eH (.slice av bs.length cv) g)=>(eE Mg hg).2);clear hb Mg hbm Qo Ms Qq;go_wp2_with fail;clear Pq;obtain⟨j,hj⟩:∃j,j=w10.heap.size:=⟨_,rfl⟩;have hj1:j < (w10.alloc (.map #[] 0)).heap.size:=by rw [aE];omega
     have HVO:=V (show∀g,eH (.slice av bs.length cv) g ->g < j from fun g hg=>by have:=hvo.out g hg;omega);have hj8:w8.heap.size <=j:=by have:=HB10.out.size;omega
     rw [<- hj]at HJM⊢;have HB11:=V (HB10.out.alloc HB10.out.size (.map #[] 0));clear hj hvo HBM HB10;generalize w10.alloc (.map #[] 0)=Sc at HBO HJM HB11 hj1⊢;refine eJ (fun a' w'=>∃(i:Nat),a'=fr (gs a' 0 6 (.pointer (some ⟨X,0,none⟩)::gs a' 7 10 (.map (some j)::gs a' 18 97 (.slice (some ⟨bc,PV,none⟩) m.eA.length k6:: .int .i64 m.eA.length:: .int .i64 js.length::gs a' 118 10 (.slice av bs.length cv:: .int .i64 bs.length:: .int .i64 i::gs a' 131 20 [])))))/\i <=bs.length/\fQ w' j (bs.take i)/\ee (fun g=>g=j) Sc w') (fun a' _=>(bs.length - (intOf (a'.tmps.getD 130 undef)).toNat)) ?_ ?_
     ·exact⟨0,rfl,bA _,HJM.out,ee.refl _ _⟩
     ·clear HJM
      rintro R a' w12 ⟨i,Lp,hJ⟩ HR;dsimp only [fr,gs]at Lp;generalize slot a'=f at Lp;subst Lp;obtain⟨hi,hjm,Re⟩:=hJ;have HJM:=V hjm;have HK12:=V Re;have HBO12:=V (HBO.out.keeps Re (fun g hg e=>by have:=HVO.out g hg;omega));clear hjm Re;by_cases q2:i < bs.length
      ·obtain⟨b,hb⟩:∃b,bs[i]?=some b:=⟨_,aw q2⟩
       obtain⟨bb,offb,capb,Mx,hcap1,-,-,LN⟩:=ew.at (HBO12.out.fR jM) hb;injection Mx with e1 e2 e3;subst e1 e3;have y0:=LN 0 _ rfl;have y1:=LN 1 _ rfl;have y2:=LN 2 _ rfl;rw [aK]at y0;have HBI:=V hb;have hbp:=AL HMS.out b (aO hb);have hkey:keyOf prog 3 (.int .i64 b.pos)=some (.int .i64 b.pos):=Maps.keyOf_int_mk Cq (WalkArith.wf_i64 (by omega));have HKEY:=V hkey;have NF:=(an w12.heap.size w12).alloc (ag _) (.cells (sQ b).toArray 107);have Sa:=V NF;obtain⟨n,hn,Lo⟩:=HJM.out.below NF;have PS:=V Lo;have HNN:=V hn;have hnm:n < maxLen:=by rw [List.length_take]at hn;unfold maxLen;omega
       have HNM:=V hnm;clear hb LN e2 hkey NF hn Lo hnm hcap1 hbp;go_wp2_with (first | (at_mapUpdate;refine wpList_mapUpdate_own _ rfl _ _ _ 72 rfl 3 107 (Maps.int_keyed Cq) Ei rq j n (tW (bs.take i)) rfl PS.out HNM.out _ _ (.int .i64 b.pos) rfl rfl HKEY.out (tb b) [] rfl ?_));intro w13 hown13 PY;have HJ13:=V (show fQ w13 j (bs.take (i+1))from⟨n+1,by have:=HNN.out;rw [aS]at this⊢;omega,by rw [aR,HBI.out,Option.toList_some,BE];exact hown13⟩);have HK13:=V ((HK12.out.trans (ee.eh (S:=fun _=>False) Sa.out) (fun _ h=>h.elim)).trans (zB PY) (fun _ h=> .inl h));clear hown13 PY y0 y1 y2 PS HNM HKEY;go_wp2_with fail;refine HR.out _ _ ⟨i+1,rfl,by omega,HJ13.out,HK13.out⟩ ?_;simp [intOf];omega
      ·obtain rfl:i=bs.length:=by omega
       rw [aV]at HJM;obtain⟨aj,cj,hvj,-,hcjm⟩:=HJ.out.row.slice;subst hvj;have hX12:=(HJ.out.km.below HB11.out HJ.out.km.lt).keeps HK12.out (by have:=HJ.out.km.lt;omega);have x16:w12.cell? ⟨X,16,none⟩=some (.slice aj js.length cj):=hX12.cell 16;have Rt:=V (show ea 72 1 Ag w12 w7.heap.size (.slice aj js.length cj) js from(HJ.out.row.below HB11.out).keeps HK12.out (fun g hg e=>by have:=(eE HJ.out.row hg).2;omega));have HX12:=V hX12;have hsz7:w7.heap.size <=w12.heap.size:=by have:=HK.out.size;have:=HB11.out.size;have:=HK12.out.size;omega
       clear hX12 HR q2;go_wp2_with (first | (at_builtin;refine fb w12 rfl _ _ 91 rfl _ 8 (by kernel_rfl) DZ rfl (by decide) (by decide) w7.heap.size (.slice aj js.length cj) js rfl Rt.out j _ rfl rfl (F4 _) rfl (by omega) hsz7 ?_));intro v14 w14 ho hk14 hs14;obtain⟨a2,c2,hv14,-,-⟩:=ho.slice;rw [ah,aB]at hv14;subst hv14;have hX14:=HX12.out.keeps hk14 (fun hg=>ea.gK Rt.out HX12.out (by decide) X hg rfl);have x16:w14.cell? ⟨X,16,none⟩=some (.slice aj js.length cj):=hX14.cell 16;have z16:=hX14.free 16;have HM:=V (xB.more (c:=c) HJ.out HB11.out hj8 HK12.out HCC.out (show fQ w12 j (jf c)by unfold jf;rw [HMS.out];exact HJM.out) (by have:=HK.out.size;omega) ho hk14);have Qa:=V ((((HK.out.trans (ee.eh (S:=fun _=>False) HB11.out) (fun _ h=>h.elim)).trans HK12.out (fun g hg=> .inr (by have:=HK.out.size;omega))).trans hk14 (fun g hg=> .inr (eE Rt.out hg).1)).trans (eC w14 X 16 (.slice a2 (js.length+1) c2)) (fun g hg=> .inl hg));clear hX14 ho hk14 hs14;go_wp2_with fail;refine HRO.out _ _ ⟨js.length+1,_,js++[j],rfl,⟨by omega,by simp⟩,HM.out,Qa.out⟩ ?_;simp [intOf];omega
def sj:eI:=⟨[],[],[0],⟨false,0,0⟩,⟨false,0,0⟩,[],[],[],[],[]⟩
theorem AT:(fy 0 ij).may:=by decide
theorem Bt:8 < (fJ (fy 0 ij)).length:=by decide
theorem EZ:m0.may/\(fJ m0).length=8:=by decide
theorem GA:¬ sj.may:=by decide
theorem JW:qL [120]=none:=by decide
theorem Cf:fW (fy 0 ij) 0=true/\fW (fy 0 (ij.take 2)) 0=false/\fW (fy 0 [⟨0,0,0,[]⟩,⟨106,0,0,[]⟩]) 0=true/\fW (fy 0 ij) 1=false:=by decide
theorem po:iM (fy 0 ij)= -1/\iM (fy 1 ij)=7/\iM sj=0:=by decide
theorem AS:iM (fe [])= -1:=by decide
theorem zP:∀(f:Nat) (n:Int),(iN f n).length <=f
 | 0,_=>by simp [iN]
 | f+1,n=>by
  unfold iN;split
  ·simp
  ·have:=zP f (n/128)
   simp only [aF];omega
theorem Ih (n:Int):(iy n).length <=10:=zP 10 n
theorem D4 (x:eS) (h:x.l=[]):(iC x).length <=21:=by
 have h1:=eO x.a.toNat;have h2:=eO x.b.toNat;have h3:=Ih x.a;have h4:=eO 0;unfold iC gz;rw [h];split <;>simp only [aF,ah,aL,cV,List.flatten_nil] <;>omega
theorem Au:∀(l:List eS),(∀x∈l,x.l=[]) ->(mT l).length <=21*l.length+1
 | [],_=>by simp [mT]
 | x::l,h=>by
  have h1:=D4 x (h x (by simp));have h2:=Au l (fun y hy=>h y (by simp [hy]));unfold mT at h2⊢;simp only [bG,bT,ah,aF,aL]at h2⊢;omega
theorem Bd (body:List eS):(fJ (fe body)).length <=(mT body).length+500:=by
 unfold fJ pK;have h1:(fM 1 lh (fe body).types).length <=40:=by show(fM 1 lh (fe []).types).length <=40;decide
 have h2:(fM 2 nQ (fe body).imports).length <=40:=by show(fM 2 nQ (fe []).imports).length <=40;decide
 have h3:(fM 3 sb (fe body).funcs).length <=40:=by show(fM 3 sb (fe []).funcs).length <=40;decide
 have h4:(fM 4 jC (oneOf (fe body).table)).length <=40:=by show(fM 4 jC (oneOf (fe []).table)).length <=40;decide
 have h5:(fM 5 gQ (oneOf (fe body).mem)).length <=40:=by show(fM 5 gQ (oneOf (fe []).mem)).length <=40;decide
 have h6:(fM 6 kV (fe body).globals).length <=40:=by show(fM 6 kV (fe []).globals).length <=40;decide
 have h7:(fM 7 oo (fe body).ep).length <=40:=by show(fM 7 oo (fe []).ep).length <=40;decide
 have h8:(fM 9 kZ (fe body).elems).length <=40:=by show(fM 9 kZ (fe []).elems).length <=40;decide
 have h9:(fM 11 oa (fe body).eK).length=0:=rfl;have h0:fL.length=8:=rfl;have ha:(fM 10 iE (fe body).eA).length=1+((eY (ff iE (fe body).eA).length).length+((eY 2).length+((iE ⟨[],body⟩).length+(iE ⟨[],[⟨32,0,0,[]⟩]⟩).length))):=by
  show(10::(eY (ff iE (fe body).eA).length++(eY 2++(iE ⟨[],body⟩++(iE ⟨[],[⟨32,0,0,[]⟩]⟩++[]))))).length=_;simp only [aF,ah,aL];omega
 have hb:=eO (ff iE (fe body).eA).length;have hc:=eO 2;have hd:(iE ⟨[],body⟩).length=(eY (mB ⟨[],body⟩).length).length+((kD []).length+(mT body).length):=by
  unfold iE mB;simp only [ah]
 have he:=eO (mB ⟨[],body⟩).length;have hf:(kD []).length=1:=by decide
 have hg:(iE ⟨[],[⟨32,0,0,[]⟩]⟩).length <=20:=by decide
 simp only [ah];omega
theorem Fo (body:List eS) (hk:gS.may ⟨[],body⟩) (hl:∀x∈body,x.l=[]):(fe body).may:=by
 have h0:(fe []).may:=by decide
 obtain⟨⟨⟨h1,h2,h3⟩,h4,h5,h6⟩,-⟩:=h0;refine⟨⟨⟨h1,h2,fun x hx=>?_⟩,h4,h5,h6⟩,?_⟩
 ·simp only [fe,bB,bN,cY]at hx
  rcases hx with rfl | rfl
  ·exact hk
  ·exact h3 _ (by simp [fe])
 ·have:=Bd body
  have:=Au body hl;have:=hk.2.2.1;simp only at this;omega
theorem vW (body:List eS) (hk:gS.may ⟨[],body⟩) (hl:∀x∈body,x.l=[]) (hf:fW (fe body) 0=true):iM (fe body)= -1:=by
 have a1:((fe body).imports.any fun x=>ma (fe body) x.type)=false:=rfl;have a2:((fe body).funcs.any fun t=>ma (fe body) t)=false:=rfl;have a3:lp (fe body).table=false:=rfl;have a4:lp (fe body).mem=false:=rfl;have a5:xW (fe body)=false:=rfl;have a6:(fe body).table.has=true:=rfl;have a7:Az (fe body)=false:=rfl;have a8:fW (fe body) 1=true:=rfl;have a9:jG (fe body) (fe body).eA.length=true:=by
  show((true&&fW (fe body) 0)&&fW (fe body) 1)=true;rw [hf,a8];rfl
 have a10:(fe body).eK.length=0:=rfl;unfold iM;rw [aA (Fo body hk hl),a1,a2,a3,a4,a5,a6,a7,a9,a10];simp
theorem DA (body:List eS) (c:eU) (hm:(fI body).isSome=true) (hr:eU.run (fe body) [] ⟨[],[⟨2,0,0,false⟩],false⟩ body=some c) (hc:c.shut.2.bad=false):fW (fe body) 0=true:=by
 unfold fW;rw [aC (show ¬ ((0:Int) < 0\/((fe body).eA.length:Int) <=0\/((fe body).funcs.length:Int) <=0)from by show ¬ ((0:Int) < 0\/(2:Int) <=0\/(2:Int) <=0);decide)];show(if true=false\/(fI body).isSome=false then false else match eU.run (fe body) [] ⟨[],[⟨2,0,0,false⟩],false⟩ body with
  | none=>false
  | some c=> !c.shut.2.bad&&decide (([]:List Int).length <=32))=true
 rw [hm,hr];simp [hc]
def oR (a:Int):eS:=⟨65,a,0,[]⟩
def CU (X b o g k J:Nat):Array Value:=#[.pointer (some ⟨X,0,none⟩), .pointer (some ⟨b,o,none⟩), .pointer (some ⟨g,k,none⟩), .map (some J)]
def jO (w:World) (D X b o g k J:Nat):Prop:=eP w D (CU X b o g k J) 74
theorem jO.not {w:World} {D X b o g k J:Nat} {pre post:List Value} {t:TypeId} {v:qz} {s:gV} (h:jO w D X b o g k J) (hs:fV w b pre post t v s):¬ v.own b D:=
 hs.not h (fun e=>by subst e;exact hs.ty.2.2.2 (hs.km.uniq h)) (by decide)
theorem jO.keeps {P:Nat ->Prop} {w w':World} {D X b o g k J:Nat} (h:jO w D X b o g k J) (hk:ee P w w') (hP:¬ P D):jO w' D X b o g k J:=eP.keeps h hk hP
theorem jO.below {w w':World} {D X b o g k J:Nat} (h:jO w D X b o g k J) (hk:Below w.heap.size w w'):jO w' D X b o g k J:=eP.below h hk h.lt
theorem jO.drew {w:World} {D X b o g k J:Nat} (h:jO w D X b o g k J):jO w.drew D X b o g k J:=eP.drew h
theorem jO.alloc {w:World} {D X b o g k J:Nat} (h:jO w D X b o g k J) (ob:Obj):jO (w.alloc ob) D X b o g k J:=eP.alloc h ob
theorem jO.d0 {w:World} {D X b o g k J:Nat} (h:jO w D X b o g k J):w.cell? ⟨D,0,none⟩=some (.pointer (some ⟨X,0,none⟩)):=eP.cell h 0
theorem jO.d1 {w:World} {D X b o g k J:Nat} (h:jO w D X b o g k J):w.cell? ⟨D,1,none⟩=some (.pointer (some ⟨b,o,none⟩)):=eP.cell h 1
theorem jO.d2 {w:World} {D X b o g k J:Nat} (h:jO w D X b o g k J):w.cell? ⟨D,2,none⟩=some (.pointer (some ⟨g,k,none⟩)):=eP.cell h 2
theorem jO.d3 {w:World} {D X b o g k J:Nat} (h:jO w D X b o g k J):w.cell? ⟨D,3,none⟩=some (.map (some J)):=eP.cell h 3
def gm (b:Nat) (pre post:List Value) (t:TypeId) (v:qz) (r:jv × gV) (w:World) (e:Ending) (w':World):Prop:=
 ∃v' vv,e= .returned (oy r.1 vv)/\fV w' b pre post t v' r.2/\kn v v' b w w'/\ea 42 2 gw w' w.heap.size vv r.1.ej/\∀g,eH vv g ->¬ v'.own b g
def lK (w:World) (X:Nat) (a b c:Int) (v:Value):World:=(((w.setCell ⟨X,0,none⟩ (.int .i64 a)).setCell ⟨X,1,none⟩ (.int .i64 b)).setCell ⟨X,2,none⟩ (.int .i64 c)).setCell ⟨X,3,none⟩ v
theorem gJ (w:World) (X:Nat) (a b c:Int) (v:Value):ee (fun i=>i=X) w (lK w X a b c v):=
 (((eC w X 0 _).trans (eC _ X 1 _) (fun _ h=> .inl h)).trans (eC _ X 2 _) (fun _ h=> .inl h)).trans (eC _ X 3 _) (fun _ h=> .inl h)
theorem nA {w w2:World} {xs:Array Value} (hx:eP w2 w.heap.size xs 32) (hs:xs.size=4) (a b c:Int) (v:Value):
  (loadVar 32 ⟨w.heap.size,0,none⟩).run prog (lK w2 w.heap.size a b c v)= .ok (.agg #[.int .i64 a, .int .i64 b, .int .i64 c,v]) (lK w2 w.heap.size a b c v):=by
 obtain⟨x0,x1,x2,x3,rfl⟩:∃x0 x1 x2 x3,xs=#[x0,x1,x2,x3]:=by
  match xs,hs with
  | ⟨[x0,x1,x2,x3]⟩,_=>exact⟨x0,x1,x2,x3,rfl⟩
 exact(hx.sx _ _ _ _).pQ
theorem gm.mk {w w2:World} {b:Nat} {pre post:List Value} {t:TypeId} {v v':qz} {r:jv × gV} {o:jv} {s:gV} {vv:Value} (he:r=(o,s)) (hs:fV w2 b pre post t v' s) (ht:kn v v' b w w2) (hn:¬ v'.own b w.heap.size)
  (hv:ea 42 2 gw w2 w.heap.size vv o.ej) (OJ:∀g,eH vv g ->¬ v'.own b g) (M4:¬ eH vv w.heap.size) (a1 a2 a3:Int) (h1:o.kind=a1) (h2:o.qx=a2) (h3:o.fn=a3):
  gm b pre post t v r w (.returned (.agg #[.int .i64 a1, .int .i64 a2, .int .i64 a3,vv])) (lK w2 w.heap.size a1 a2 a3 vv):=by
 subst he h1 h2 h3;have Lt:=gJ w2 w.heap.size o.kind o.qx o.fn vv;exact⟨v',vv,rfl,hs.keeps Lt (fun g hg e=>hn (e▸hg)),⟨ht.1.trans Lt (fun i hi=> .inr (by omega)),ht.2⟩,hv.keeps Lt (fun g hg e=>M4 (e▸hg)),OJ⟩
def kP (l1 puts:List fm) (s:gV) (lo:List fc) (f:fc):jv × gV:=
 if 1000 < l1.length+puts.length then(.full,s)else(.more,⟨l1++puts,lo++[{f with pc:=f.pc+1}],s.asks⟩)
theorem fV.ug {w:World} {b:Nat} {pre post:List Value} {t:TypeId} {v:qz} {s:gV} (h:fV w b pre post t v s):¬ v.own b w.heap.size:=fun hg=>by have:=h.lt hg;omega
theorem ry (w:World) (D X b g J cap:Nat) (pre post:List Value) (t:TypeId) (uv:Value) (us:List (Value × Value)) (u:Value × Value) (l1 l2 puts:List fm) (lo:List fc) (f:fc) (asks:Int) (pv:Value) (kz:Int) (hkz:kz=l2.length)
  (LI:fV w b pre post t ⟨uv, .slice (some ⟨g,0,none⟩) (lo.length+1) cap,us++[u]⟩ ⟨l1++l2,lo++[f],asks⟩) (hd:jO w D X b pre.length g (lo.length*5) J) (hp:ew 2 gw w pv puts)
  (hn:l1.length+puts.length <=100000) (Ot: -1 <=f.pc/\f.pc <=1000000):
  Calls prog 19 #[.pointer (some ⟨D,0,none⟩), .int .i64 kz,pv] w (gm b pre post t ⟨uv, .slice (some ⟨g,0,none⟩) (lo.length+1) cap,us++[u]⟩ (kP l1 puts ⟨l1++l2,lo++[f],asks⟩ lo f) w):=by
 subst hkz;obtain⟨av,cv,Rz,MR,NC⟩:=LI.ej.slice;simp only [ah]at Rz MR;subst Rz;obtain⟨ap,cp,rfl,-,hcpm,-⟩:=id hp;unfold maxLen at hcpm;have LQ:=(an w.heap.size w).alloc (ag _) (.cells #[.int .i64 0, .int .i64 0, .int .i64 0, .slice none 0 0] 32);have HX:=V (eP.new w #[.int .i64 0, .int .i64 0, .int .i64 0, .slice none 0 0] 32);have PW:=V LI;have Ls:=V (LI.below LQ);have HD:=V (hd.below LQ);have HP:=V (hp.below LQ);have HT:=V (kn.eh (v:=⟨.slice av (l1.length+l2.length) cv, .slice (some ⟨g,0,none⟩) (lo.length+1) cap,us++[u]⟩) (b:=b) LQ);have d1:=HD.out.d1;have c0:World.cell? _ ⟨b,pre.length,none⟩=some (.slice av (l1.length+l2.length) cv):=Ls.out.c0;clear LI hd hp LQ;by_cases q:1000 < l1.length+puts.length
 ·have f1:decide ((1000:Int) < (l1.length:Int)+(puts.length:Int))=true:=aA (by omega)
  have f2:decide (1000 < l1.length+puts.length)=true:=aA q;have HR:=V (show kP l1 puts ⟨l1++l2,lo++[f],asks⟩ lo f=(.full,⟨l1++l2,lo++[f],asks⟩)by unfold kP;rw [if_pos q]);clear q;go_enter func19,ntmps19;go_wp2_with fail;refine(zi _).mono ?_;rintro e w2 ⟨rfl,hb⟩;replace HX:=V (HX.out.below hb HX.out.lt);replace Ls:=V (Ls.out.below hb);replace HT:=V (HT.out.below hb);clear hb d1 c0;obtain⟨⟨x0,x1,x2,x3⟩,z0,z1,z2,z3⟩:=HX.out.four;go_wp2_with fail;refine aN (eG rfl _ _ rfl (nA HX.out rfl 5 0 0 (.slice none 0 0))) rfl ?_;exact gm.mk HR.out Ls.out HT.out PW.out.ug (ea.nil _ _) (fun g hg=>by simp [eH,Value.ownBlock]at hg) (by simp [eH,Value.ownBlock]) 5 0 0 rfl rfl rfl
 ·have f1:decide ((1000:Int) < (l1.length:Int)+(puts.length:Int))=false:=aq (by omega)
  have f2:decide (1000 < l1.length+puts.length)=false:=aq q;have HR:=V (show kP l1 puts ⟨l1++l2,lo++[f],asks⟩ lo f=(.more,⟨l1++puts,lo++[{f with pc:=f.pc+1}],asks⟩)by unfold kP;rw [if_neg q]);clear q;have MU:=fun wx=>yK av (l1.length+l2.length) cv l1.length (by omega) wx;go_enter func19,ntmps19;go_wp2_with fail;refine eX (fun w'=>w'.cell? ⟨D,1,none⟩=some (.pointer (some ⟨b,pre.length,none⟩))/\w'.cell? ⟨b,pre.length,none⟩=some (.slice av (l1.length+l2.length) cv)) 17 (up 0 14 ((14,false)::(15,true)::(16,true)::[])) (by kernel_rfl) (by kernel_rfl) ⟨d1,c0⟩ ?_;replace HX:=V HX.out.drew;replace Ls:=V Ls.out.drew;replace HD:=V HD.out.drew;replace HP:=V (HP.out.below (an _ _).drew);replace HT:=V HT.out.drew;clear d1 c0;generalize(w.alloc (.cells #[.int .i64 0, .int .i64 0, .int .i64 0, .slice none 0 0] 32)).drew=w1 at HX Ls HD HP HT⊢;iterate 14 (first | (apply sk rfl rfl;simp only [pt]) | (apply ef rfl rfl rfl;·(rintro w' ⟨t0,t1⟩;go_wp2;exact⟨rfl,rfl,rfl⟩)))
  refine eo rfl rfl ?_;clear MU;have HC:=V (show ea 42 2 gw w1 0 (.slice av l1.length cv) l1 by
   have h:=ea.take gB Ls.out.ej l1.length (by simp)
   rwa [dF rfl]at h)
  go_wp2_with (first | (at_builtin;refine yc w1 rfl _ _ 30 rfl _ 16 (by kernel_rfl) lC rfl (by decide) (by decide) 0 (.slice av l1.length cv) l1 rfl HC.out gB _ puts rfl HP.out (fun y _=>mi y) (by omega) (bA _) ?_));intro v2 w2 ho hk hs;obtain⟨a2,c2,M4,-,-⟩:=ho.slice;rw [ah]at M4;subst M4;replace hk:ee (eH (.slice av (l1.length+l2.length) cv)) w1 w2:=hk.mono (fun i hi=>(ea.same i).1 hi);replace hs:eM w1 (.slice av (l1.length+l2.length) cv) (.slice a2 (l1.length+puts.length) c2):=fun i hi=>(hs i hi).imp (fun h=>(ea.same i).1 h) id;have LK:=Ls.out.FC hk;obtain⟨LZ,Sd⟩:=Ls.out.yh ho hk hs;have hDn:=HD.out.not Ls.out;have Q8:¬ eH (.slice av (l1.length+l2.length) cv) w.heap.size:=fun hg=>ea.gK Ls.out.ej HX.out (by decide) _ hg rfl;have Qb:=HD.out.keeps hk (fun hg=>hDn (.inr (.inl hg)));have LD:=V (HX.out.keeps hk Q8);have c0:w2.cell? ⟨b,pre.length,none⟩=some (.slice av (l1.length+l2.length) cv):=(LK.1.cell _).trans (rE _ _ _ _);have z0:=LK.1.free pre.length;have d1:=Qb.d1;have HSS:=V LZ;have HTT:=V (HT.out.trans Sd);have RA:=V (Qb.keeps (eC w2 b pre.length (.slice a2 (l1.length+puts.length) c2)) (fun e=>hDn (.inl e)));have QP:=V (LD.out.keeps (eC w2 b pre.length (.slice a2 (l1.length+puts.length) c2)) (fun e=>PW.out.ug (.inl e)));clear LK LZ Sd hDn Q8 Qb LD hk hs ho HC HX HT Ls HP HD;go_wp2_with fail;refine⟨⟨d1,c0⟩,?_⟩;iterate 2 (first | (apply sk rfl rfl;simp only [pt]) | (apply ef rfl rfl rfl;·(rintro w' ⟨t0,t1⟩;go_wp2;exact⟨rfl,rfl,rfl⟩)))
  refine fP rfl rfl ?_;go_wp2_with fail;refine⟨trivial,?_⟩;refine aD ?_;clear d1 c0 z0;generalize w2.setCell ⟨b,pre.length,none⟩ (.slice a2 (l1.length+puts.length) c2)=w3 at HSS HTT RA QP⊢;obtain⟨⟨-,p1,-,-,-⟩,-,-,zg,-,-⟩:=HSS.out.cells;have z1:=zg (lo.length*5+1);have d2:=RA.out.d2;have hp1: -1 <=f.pc:=Ot.1;have Qc:f.pc <=1000000:=Ot.2;have HNP:=V (HSS.out.Bw {f with pc:=f.pc+1} 1 (x:= .int .i64 (f.pc+1)) (by decide) rfl rfl rfl);have QP:=V (QP.out.keeps (eC w3 g (lo.length*5+1) (.int .i64 (f.pc+1))) (fun e=>PW.out.ug (.inr (.inr (.inl (by rw [e];simp [eH,Value.ownBlock]))))));clear zg Ot;go_wp2_with fail;clear p1 z1 d2;generalize w3.setCell ⟨g,lo.length*5+1,none⟩ (.int .i64 (f.pc+1))=w4 at HNP QP⊢;refine(pf _).mono ?_;rintro e w5 ⟨rfl,hb⟩;replace HX:=V (QP.out.below hb QP.out.lt);have Ls:=V (HNP.out.1.below hb);have HT:=V ((HTT.out.trans HNP.out.2).below hb);clear hb QP HNP HTT;obtain⟨⟨x0,x1,x2,x3⟩,z0,z1,z2,z3⟩:=HX.out.four;go_wp2_with fail;refine aN (eG rfl _ _ rfl (nA HX.out rfl 1 0 0 (.slice none 0 0))) rfl ?_;have Ml:=PW.out.km.lt;exact gm.mk HR.out Ls.out HT.out (Ls.out.not HX.out (by omega) (by decide)) (ea.nil _ _) (fun g hg=>by simp [eH,Value.ownBlock]at hg) (by simp [eH,Value.ownBlock]) 1 0 0 rfl rfl rfl
def kS (l1 l2:List fm) (res:Bool):List fm:=if res=true then l1++(l1++l2).getLast?.toList else l1
def IY (b:Nat) (pre post:List Value) (t:TypeId) (uv uf:Value) (us:List (Value × Value)) (Sg:List fm) (s:gV) (w:World) (e:Ending) (w':World):Prop:=
 ∃uv',e= .returned (.tuple #[])/\fV w' b pre post t ⟨uv',uf,us⟩ {s with ej:=Sg}/\kn ⟨uv,uf,us⟩ ⟨uv',uf,us⟩ b w w'
theorem zn (w:World) (D X b g k J:Nat) (pre post:List Value) (t:TypeId) (uv uf:Value) (us:List (Value × Value)) (l1 l2:List fm) (ey:List fc) (asks:Int) (hz:Int) (hhz:hz=l1.length) (res:Bool) (L6:res=true ->l1++l2≠[])
  (LI:fV w b pre post t ⟨uv,uf,us⟩ ⟨l1++l2,ey,asks⟩) (hd:jO w D X b pre.length g k J) (hn:l1.length+l2.length <=100000):
  Calls prog 55 #[.pointer (some ⟨D,0,none⟩), .int .i64 hz, .bool res] w (IY b pre post t uv uf us (kS l1 l2 res) ⟨l1++l2,ey,asks⟩ w):=by
 subst hhz;obtain⟨av,cv,Rz,MR,NC⟩:=LI.ej.slice;simp only [ah]at Rz MR;subst Rz;have LQ:=(an w.heap.size w).drew;have Ls:=V LI.drew;have HD:=V hd.drew;have HT:=V (kn.eh (v:=⟨.slice av (l1.length+l2.length) cv,uf,us⟩) (b:=b) LQ);have d1:=HD.out.d1;have c0:World.cell? _ ⟨b,pre.length,none⟩=some (.slice av (l1.length+l2.length) cv):=Ls.out.c0;have MU:=fun wx=>yK av (l1.length+l2.length) cv l1.length (by omega) wx;have HC:=V (show ea 42 2 gw w.drew 0 (.slice av l1.length cv) l1 by
   have h:=ea.take gB Ls.out.ej l1.length (by simp)
   rwa [dF rfl]at h)
 clear LI hd LQ;cases res
 ·clear L6
  go_enter func55,ntmps55;go_wp2_with fail;refine eX (fun w'=>w'.cell? ⟨D,1,none⟩=some (.pointer (some ⟨b,pre.length,none⟩))/\w'.cell? ⟨b,pre.length,none⟩=some (.slice av (l1.length+l2.length) cv)) 15 (up 0 15 []) (by kernel_rfl) (by kernel_rfl) ⟨d1,c0⟩ ?_;clear d1 c0;generalize w.drew=w1 at Ls HD HT HC⊢;iterate 15 (first | (apply sk rfl rfl;simp only [pt]) | (apply ef rfl rfl rfl;·(rintro w' ⟨t0,t1⟩;go_wp2;exact⟨rfl,rfl,rfl⟩)))
  refine fP rfl rfl ?_;have c0:w1.cell? ⟨b,pre.length,none⟩=some (.slice av (l1.length+l2.length) cv):=Ls.out.c0;have z0:=Ls.out.km.free pre.length;go_wp2_with fail;refine⟨trivial,?_⟩;refine aD ?_;go_wp2_with fail
  go_end0
  obtain⟨h1,h2⟩:=Ls.out.yh HC.out (ee.refl _ _) (fun i hi=> .inl ((ea.same i).1 hi));exact⟨_,rfl,h1,HT.out.trans h2⟩
 ·obtain⟨l,x,hlx⟩:=rf (L6 rfl)
  have HL:=V hlx;have HK:Hid (kS l1 l2 true=l1++[x]):=V (by unfold kS;rw [if_pos rfl,hlx];simp);clear L6 hlx;go_enter func55,ntmps55;go_wp2_with fail;refine eX (fun w'=>w'.cell? ⟨D,1,none⟩=some (.pointer (some ⟨b,pre.length,none⟩))/\w'.cell? ⟨b,pre.length,none⟩=some (.slice av (l1.length+l2.length) cv)) 19 (up 0 14 ((14,false)::(15,false)::(16,false)::(17,true)::(18,true)::[])) (by kernel_rfl) (by kernel_rfl) ⟨d1,c0⟩ ?_;clear d1 c0;generalize w.drew=w1 at Ls HD HT HC⊢;iterate 14 (first | (apply sk rfl rfl;simp only [pt]) | (apply ef rfl rfl rfl;·(rintro w' ⟨t0,t1⟩;go_wp2;exact⟨rfl,rfl,rfl⟩)))
  clear MU;refine eo rfl rfl ?_;go_wp2_with fail;refine(yY w1 D b pre.length 0 (.slice av (l1.length+l2.length) cv) l x HD.out.d1 Ls.out.c0 (by rw [<- HL.out];exact Ls.out.ej)).mono ?_;rintro e w2 ⟨rfl,hb⟩;replace Ls:=V (Ls.out.below hb);replace HD:=V (HD.out.below hb);replace HT:=V (HT.out.below hb);replace HC:=V (HC.out.below hb);clear hb;go_wp2_with fail;refine⟨⟨HD.out.d1,Ls.out.c0⟩,?_⟩;refine eo rfl rfl ?_;go_wp2_with fail;refine⟨⟨(HD.out.alloc _).d1,(Ls.out.alloc _).c0⟩,?_⟩;refine eo rfl rfl ?_;go_wp2_with (first | (at_builtin;refine fb w2 rfl _ _ 30 rfl _ 16 (by kernel_rfl) lC rfl (by decide) (by decide) 0 (.slice av l1.length cv) l1 rfl HC.out (⟨x.kind,x.n⟩:fm) _ rfl rfl (mi _) rfl (by omega) (bA _) ?_));intro v2 w3 ho hk hs;obtain⟨a2,c2,M4,-,-⟩:=ho.slice;have e2:(l1++[(⟨x.kind,x.n⟩:fm)]).length=l1.length+1:=by simp
  rw [e2]at M4;subst M4;replace hk:ee (eH (.slice av (l1.length+l2.length) cv)) w2 w3:=hk.mono (fun i hi=>(ea.same i).1 hi);replace hs:eM w2 (.slice av (l1.length+l2.length) cv) (.slice a2 (l1.length+1) c2):=fun i hi=>(hs i hi).imp (fun h=>(ea.same i).1 h) id;have LK:=Ls.out.FC hk;have HP:=V (Ls.out.yh ho hk hs);have d1:=(HD.out.keeps hk (fun hg=>HD.out.not Ls.out (.inr (.inl hg)))).d1;have c0:w3.cell? ⟨b,pre.length,none⟩=some (.slice av (l1.length+l2.length) cv):=(LK.1.cell _).trans (rE _ _ _ _);have z0:=LK.1.free pre.length;clear LK hk hs ho e2;go_wp2_with fail;refine⟨⟨d1,c0⟩,?_⟩;iterate 2 (first | (apply sk rfl rfl;simp only [pt]) | (apply ef rfl rfl rfl;·(rintro w' ⟨t0,t1⟩;go_wp2;exact⟨rfl,rfl,rfl⟩)))
  refine fP rfl rfl ?_;go_wp2_with fail;refine⟨trivial,?_⟩;refine aD ?_;go_wp2_with fail
  go_end0
  rw [HK.out];exact⟨_,rfl,HP.out.1,HT.out.trans HP.out.2⟩
def ox (m:eI) (f:Int) (t:gN):Prop:=
 (∃(i ti:Nat) (x:jt),m.imports[i]?=some x/\x.type=(ti:Int)/\m.types[ti]?=some t/\f=(i:Int))\/∃i ti:Nat,m.funcs[i]?=some (ti:Int)/\m.types[ti]?=some t/\f=((m.imports.length+i:Nat):Int)
theorem ru (w:World) (FX:Nat ->Bool) (X:Nat) (iv:qg) (m:eI) (h:ju w FX X iv m) (t:gN) (f:Int) (hf:ox m f t) (hk:m.imports.length+m.funcs.length <=100000):
  Calls prog 41 #[.pointer (some ⟨X,0,none⟩), .int .i64 f] w (Bm FX t w):=by
 rcases hf with⟨i,ti,x,h1,h2,h3,h4⟩ | ⟨i,ti,h1,h2,h3⟩
 ·exact Gm w FX X iv m h i ti x t h1 h2 h3 f h4 hk
 ·exact Fq w FX X iv m h i ti t h1 h2 f h3 hk
def tP (vs:List fm) (lo:List fc) (asks:Int):jv × gV:=if 0 < lo.length then(.more,⟨vs,lo,asks⟩)else(⟨3,0,0,vs⟩,⟨vs,lo,asks⟩)
def J9 (T:Nat) (t:gN) (w0 w:World):Prop:=∃ap cp ar cr,eP w T #[.slice ap t.params.length cp, .slice ar t.results.length cr] 109/\cr <=9223372036854775807/\Below w0.heap.size w0 w/\w0.heap.size <=T
theorem DI (l1 l2:List fm) (res:Bool) (h:l1.length+l2.length <=50000):(kS l1 l2 res).length <=1000000:=by
 unfold kS;split
 ·rw [ah]
  have:(l1++l2).getLast?.toList.length <=1:=by cases(l1++l2).getLast? <;>simp
  omega
 ·omega
theorem Fc (w:World) (FX:Nat ->Bool) (D X b g J cap:Nat) (iv:qg) (m:eI) (pre post:List Value) (t:TypeId) (uv:Value) (us:List (Value × Value)) (u:Value × Value) (l1 l2:List fm) (lo:List fc) (fq:fc) (asks:Int) (ty:gN)
  (LI:fV w b pre post t ⟨uv, .slice (some ⟨g,0,none⟩) (lo.length+1) cap,us++[u]⟩ ⟨l1++l2,lo++[fq],asks⟩) (hd:jO w D X b pre.length g (lo.length*5) J) (Mh:ju w FX X iv m) (hty:ox m fq.fn ty) (hk:m.imports.length+m.funcs.length <=100000)
  (LY:fq.base=(l1.length:Int)) (L6:0 < ty.results.length ->l1++l2≠[]) (hn:l1.length+l2.length <=50000):
  Calls prog 25 #[.pointer (some ⟨D,0,none⟩)] w (gm b pre post t ⟨uv, .slice (some ⟨g,0,none⟩) (lo.length+1) cap,us++[u]⟩ (tP (kS l1 l2 (decide (0 < ty.results.length))) lo asks) w):=by
 have LQ:=(an w.heap.size w).alloc (ag _) (.cells #[.int .i64 0, .int .i64 0, .int .i64 0, .slice none 0 0] 32);have HX:=V (eP.new w #[.int .i64 0, .int .i64 0, .int .i64 0, .slice none 0 0] 32);have PW:=V LI;have Ls:=V (LI.below LQ);have HD:=V (hd.below LQ);have LW:=V (Mh.below LQ);have HTY:=V hty;have HT:=V (kn.eh (v:=⟨uv, .slice (some ⟨g,0,none⟩) (lo.length+1) cap,us++[u]⟩) (b:=b) LQ);have HBS:=V LY;have HRS:=V L6;have Ml:=LI.km.lt;clear LI hd Mh LQ hty LY L6;go_enter func25,ntmps25;go_wp2_with fail;generalize(w.alloc (.cells #[.int .i64 0, .int .i64 0, .int .i64 0, .slice none 0 0] 32))=w0 at HX Ls HD LW HT⊢;refine wp_cut (fun a' w'=>∃(T:Nat),a'=fr (.pointer (some ⟨D,0,none⟩)::gs a' 1 1 (.pointer (some ⟨w.heap.size,0,none⟩):: .pointer (some ⟨T,0,none⟩)::gs a' 4 71 []))/\J9 T ty w0 w') ?_ ?_
 ·obtain⟨⟨p0,-,-,-,-⟩,-,-,-,-,-,-⟩:=Ls.out.cells
  have d0:=HD.out.d0;have d2:=HD.out.d2;have HSB:=V (show∀w',Below w0.heap.size w0 w' ->w'.cell? ⟨D,0,none⟩=some (.pointer (some ⟨X,0,none⟩))/\w'.cell? ⟨D,2,none⟩=some (.pointer (some ⟨g,lo.length*5,none⟩))/\w'.cell? ⟨g,lo.length*5,none⟩=some (.int .i64 fq.fn)from
   fun w' hb=>⟨(Ext.eh hb).1 _ _ d0,(Ext.eh hb).1 _ _ d2,(Ext.eh hb).1 _ _ p0⟩)
  refine lY (fun w'=>w'.cell? ⟨D,0,none⟩=some (.pointer (some ⟨X,0,none⟩))/\w'.cell? ⟨D,2,none⟩=some (.pointer (some ⟨g,lo.length*5,none⟩))/\w'.cell? ⟨g,lo.length*5,none⟩=some (.int .i64 fq.fn)) (ord [(0,true),(1,true),(2,true),(3,true),(4,true),(5,true),(6,true),(7,true),(8,true),(9,true),(10,true)]
   (.fork 11 15 (ord [(12,true),(13,true),(14,true),(15,false),(16,false),(17,true)] .nil) (ord [(11,false),(12,true),(13,true),(14,true),(16,false),(17,true)] .nil))) (by kernel_rfl) (by kernel_rfl) (HSB.out _ (an _ _).drew) ?_
  clear p0 d0 d2;dsimp only [ord];iterate 11 (first | (apply ord_skip rfl rfl;simp only [Act.put,bj,bE,bH]) | (apply iI rfl rfl rfl;·(rintro w' ⟨t0,t1,t2⟩;go_wp2;exact⟨rfl,rfl,rfl⟩)))
  refine pG rfl rfl rfl rfl ?_ ?_
  ·go_wp2_with fail
   refine(ru _ FX X iv m (LW.out.below (an _ _).drew) ty fq.fn HTY.out hk).mono ?_;rintro e w2 ⟨u1,u2,rfl,h1,h2,LP⟩;have hb:Below w0.heap.size w0 w2:=gd LP;obtain⟨ap,cp,rfl,-,-⟩:=h1.sl;obtain⟨ar,cr,rfl,-,hcr⟩:=h2.sl;have HB:=V hb;clear h1 h2 hb LP;go_wp2_with fail;refine⟨HSB.out _ HB.out,?_⟩;iterate 3 (first | (apply ord_skip rfl rfl;simp only [Act.put,bj,bE,bH]) | (apply iI rfl rfl rfl;·(rintro w' ⟨t0,t1,t2⟩;go_wp2;exact⟨rfl,rfl,rfl⟩)))
   refine fX rfl rfl ?_;have Lr:=HB.out.alloc HB.out.size (.cells #[.slice none 0 0, .slice none 0 0] 109);have hT:=eP.new w2 #[.slice none 0 0, .slice none 0 0] 109;have hT1:=HB.out.size;go_wp2_with fail;refine⟨HSB.out _ Lr,?_⟩;refine fX rfl rfl ?_;generalize w2.alloc (.cells #[.slice none 0 0, .slice none 0 0] 109)=w3 at Lr hT⊢;obtain⟨x0,x1,z0,z1⟩:=hT.two;go_wp2_with fail;have Lt:=fN w3 w2.heap.size (.slice ap ty.params.length cp) (.slice ar ty.results.length cr);have Mf:=Lr.trans (Lt.below Lr.size (fun i hi=>by omega));refine⟨HSB.out _ Mf,?_⟩;iterate 1 (first | (apply ord_skip rfl rfl;simp only [Act.put,bj,bE,bH]) | (apply iI rfl rfl rfl;·(rintro w' ⟨t0,t1,t2⟩;go_wp2;exact⟨rfl,rfl,rfl⟩)))
   refine mG ?_;refine aD ?_;exact⟨rfl,w2.heap.size,rfl,ap,cp,ar,cr,hT.nx _ _,hcr,Mf,hT1⟩
  ·have Lr:=((an w0.heap.size w0).alloc (ag _) (.cells #[.slice none 0 0, .slice none 0 0] 109)).drew
   have hT:=(eP.new w0 #[.slice none 0 0, .slice none 0 0] 109).drew;go_wp2_with fail;refine⟨HSB.out _ Lr,?_⟩;refine fX rfl rfl ?_;have LS:=V Lr;have Sd:=V hT;generalize(w0.alloc (.cells #[.slice none 0 0, .slice none 0 0] 109)).drew=w3 at LS Sd⊢;clear Lr hT;go_wp2_with fail;refine(ru _ FX X iv m (LW.out.below LS.out) ty fq.fn HTY.out hk).mono ?_;rintro e w4 ⟨u1,u2,rfl,h1,h2,hb⟩;obtain⟨ap,cp,rfl,-,-⟩:=h1.sl;obtain⟨ar,cr,rfl,-,hcr⟩:=h2.sl;have Nl:=LS.out.trans (hb.mono LS.out.size);have hT4:=Sd.out.below hb Sd.out.lt;clear h1 h2 hb LS Sd;go_wp2_with fail;refine⟨HSB.out _ Nl,?_⟩;iterate 3 (first | (apply ord_skip rfl rfl;simp only [Act.put,bj,bE,bH]) | (apply iI rfl rfl rfl;·(rintro w' ⟨t0,t1,t2⟩;go_wp2;exact⟨rfl,rfl,rfl⟩)))
   refine fX rfl rfl ?_;obtain⟨x0,x1,z0,z1⟩:=hT4.two;go_wp2_with fail;have Lt:=fN w4 w0.heap.size (.slice ap ty.params.length cp) (.slice ar ty.results.length cr);have Mw:=Nl.trans (Lt.below Nl.size (fun i hi=>by omega));refine⟨HSB.out _ Mw,?_⟩;iterate 1 (first | (apply ord_skip rfl rfl;simp only [Act.put,bj,bE,bH]) | (apply iI rfl rfl rfl;·(rintro w' ⟨t0,t1,t2⟩;go_wp2;exact⟨rfl,rfl,rfl⟩)))
   refine mG ?_;refine aD ?_;exact⟨rfl,w0.heap.size,rfl,ap,cp,ar,cr,hT4.nx _ _,hcr,Mw,ag _⟩
 ·skip
  rintro a' w1 ⟨T,Lp,hJ⟩;dsimp only [fr,gs]at Lp;generalize slot a'=f at Lp;subst Lp;obtain⟨ap,cp,ar,cr,hT,hcr,hb,hTn⟩:=hJ;replace HX:=V (HX.out.below hb HX.out.lt);replace Ls:=V (Ls.out.below hb);replace HD:=V (HD.out.below hb);replace HT:=V (HT.out.below hb);have hww:=hb.size;clear hb LW HTY;obtain⟨⟨-,-,-,p3,-⟩,-,-,-,-,-,-⟩:=Ls.out.cells;rw [HBS.out]at p3;have hS:w1.drew.cell? ⟨D,2,none⟩=some (.pointer (some ⟨g,lo.length*5,none⟩))/\w1.drew.cell? ⟨g,lo.length*5+3,none⟩=some (.int .i64 (l1.length:Int))/\w1.drew.cell? ⟨T,1,none⟩=some (.slice ar ty.results.length cr):=⟨HD.out.d2,p3,hT.two.2.1⟩;clear p3;obtain⟨res,L6⟩:∃res,decide (0 < ty.results.length)=res:=⟨_,rfl⟩;have f1:decide ((0:Int) < (ty.results.length:Int))=res:=by rw [<- L6];congr 1;apply propext;omega
  have HRS:=V (show res=true ->l1++l2≠[]from fun h=>HRS.out (by rw [h]at L6;exact cH L6));have HRE:=V L6;go_wp2_with fail;refine eX (fun w'=>w'.cell? ⟨D,2,none⟩=some (.pointer (some ⟨g,lo.length*5,none⟩))/\w'.cell? ⟨g,lo.length*5+3,none⟩=some (.int .i64 (l1.length:Int))/\w'.cell? ⟨T,1,none⟩=some (.slice ar ty.results.length cr)) 12 (up 0 12 []) (by kernel_rfl) (by kernel_rfl) hS ?_;clear hS;iterate 12 (first | (apply sk rfl rfl;simp only [pt]) | (apply ef rfl rfl rfl;·(rintro w' ⟨t0,t1,t2⟩;go_wp2;exact⟨rfl,rfl,rfl⟩)))
  refine fP rfl rfl ?_;replace HX:=V HX.out.drew;replace Ls:=V Ls.out.drew;replace HD:=V HD.out.drew;replace HT:=V HT.out.drew;clear hT L6;generalize w1.drew=w2 at HX Ls HD HT⊢;clear f1;go_wp2_with fail;refine(zn w2 D X b g (lo.length*5) J pre post t uv (.slice (some ⟨g,0,none⟩) (lo.length+1) cap) (us++[u]) l1 l2 (lo++[fq]) asks _ rfl res HRS.out Ls.out HD.out (by omega)).mono ?_;rintro e w3 ⟨uv',rfl,hst3,ht3⟩;have Q8:=Ls.out.not HX.out (by omega) (by decide);replace HX:=V (HX.out.keeps ht3.1 Q8);replace HD:=V (HD.out.keeps ht3.1 (HD.out.not Ls.out));replace HT:=V (HT.out.trans ht3);replace Ls:=V hst3;clear hst3 ht3 Q8;go_wp2_with fail;refine⟨trivial,?_⟩;refine aD ?_;have hS:w3.drew.cell? ⟨D,1,none⟩=some (.pointer (some ⟨b,pre.length,none⟩))/\w3.drew.cell? ⟨b,pre.length+1,none⟩=some (.slice (some ⟨g,0,none⟩) (lo.length+1) cap):=⟨HD.out.d1,Ls.out.c1⟩;obtain⟨-,-,-,-,-,Mk,NC⟩:=Ls.out.cells;have MU:=fun wx=>FE (some ⟨g,0,none⟩) (lo.length+1) cap lo.length (by omega) wx;go_wp2_with fail;refine eX (fun w'=>w'.cell? ⟨D,1,none⟩=some (.pointer (some ⟨b,pre.length,none⟩))/\w'.cell? ⟨b,pre.length+1,none⟩=some (.slice (some ⟨g,0,none⟩) (lo.length+1) cap)) 23 (up 0 23 []) (by kernel_rfl) (by kernel_rfl) hS ?_;clear hS;replace HX:=V HX.out.drew;replace Ls:=V Ls.out.drew;replace HD:=V HD.out.drew;replace HT:=V HT.out.drew;generalize w3.drew=w4 at HX Ls HD HT⊢;iterate 23 (first | (apply sk rfl rfl;simp only [pt]) | (apply ef rfl rfl rfl;·(rintro w' ⟨t0,t1⟩;go_wp2;exact⟨rfl,rfl,rfl⟩)))
  clear MU;refine fP rfl rfl ?_;have c1:w4.cell? ⟨b,pre.length+1,none⟩=some (.slice (some ⟨g,0,none⟩) (lo.length+1) cap):=Ls.out.c1;have z1:=Ls.out.km.free (pre.length+1);go_wp2_with fail;refine⟨trivial,?_⟩;refine aD ?_;clear c1 z1;obtain⟨h1,h2⟩:=Ls.out.FW;have Q8:=Ls.out.not HX.out (by omega) (by decide);replace HX:=V (HX.out.keeps h2.1 Q8);replace HD:=V (HD.out.keeps h2.1 (HD.out.not Ls.out));replace HT:=V (HT.out.trans h2);replace Ls:=V h1;clear h1 h2 Q8;generalize w4.setCell ⟨b,pre.length+1,none⟩ (.slice (some ⟨g,0,none⟩) lo.length cap)=w5 at HX Ls HD HT⊢;have d1:=HD.out.d1;have c1:w5.cell? ⟨b,pre.length+1,none⟩=some (.slice (some ⟨g,0,none⟩) lo.length cap):=Ls.out.c1;by_cases q:0 < lo.length
  ·have f1:decide ((0:Int) < (lo.length:Int))=true:=aA (by omega)
   have f2:decide (0 < lo.length)=true:=aA q;have HR:=V (show tP (kS l1 l2 res) lo asks=(.more,⟨kS l1 l2 res,lo,asks⟩)by unfold tP;rw [if_pos q]);clear q;go_wp2_with fail;refine(pf _).mono ?_;rintro e w6 ⟨rfl,hb⟩;replace HX:=V (HX.out.below hb HX.out.lt);replace Ls:=V (Ls.out.below hb);replace HT:=V (HT.out.below hb);clear hb d1 c1;obtain⟨⟨x0,x1,x2,x3⟩,z0,z1,z2,z3⟩:=HX.out.four;go_wp2_with fail;refine aN (eG rfl _ _ rfl (nA HX.out rfl 1 0 0 (.slice none 0 0))) rfl ?_;rw [HRE.out];exact gm.mk HR.out Ls.out HT.out (Ls.out.not HX.out (by omega) (by decide)) (ea.nil _ _) (fun g hg=>by simp [eH,Value.ownBlock]at hg) (by simp [eH,Value.ownBlock]) 1 0 0 rfl rfl rfl
  ·have f1:decide ((0:Int) < (lo.length:Int))=false:=aq (by omega)
   have f2:decide (0 < lo.length)=false:=aq q;have HR:=V (show tP (kS l1 l2 res) lo asks=(⟨3,0,0,kS l1 l2 res⟩,⟨kS l1 l2 res,lo,asks⟩)by unfold tP;rw [if_neg q]);clear q;obtain⟨av,cv,Rz,-,MR⟩:=Ls.out.ej.slice;have c0:w5.cell? ⟨b,pre.length,none⟩=some (.slice av (kS l1 l2 res).length cv):=by rw [<- Rz];exact Ls.out.c0
   have HV:=V (show ew 2 gw w5 (.slice av (kS l1 l2 res).length cv) (kS l1 l2 res)by rw [<- Rz];exact Ls.out.ej.fR gB);have HW:=V HT.out.1.size;clear Rz;go_wp2_with fail;refine(oV _ (kS l1 l2 res) w5 HV.out (DI l1 l2 res (by omega))).mono ?_;rintro e w6 ⟨vv,rfl,ho,hb⟩;obtain⟨a2,c2,rfl,-,-⟩:=ho.slice;have HO:=V ho;have HL:=V hb.size;have HN:=V (fun g (hg:eH (.slice a2 (kS l1 l2 res).length c2) g)=>show w5.heap.size <=g from(eE ho hg).1);have Qr:=V (fun g hg=>Ls.out.lt (g:=g) hg);have HXL:=V HX.out.lt;replace HX:=V (HX.out.below hb HX.out.lt);replace Ls:=V (Ls.out.below hb);replace HT:=V (HT.out.below hb);clear hb d1 c1 c0 ho;obtain⟨⟨x0,x1,x2,x3⟩,z0,z1,z2,z3⟩:=HX.out.four;go_wp2_with fail;refine aN (eG rfl _ _ rfl (nA HX.out rfl 3 0 0 (.slice a2 (kS l1 l2 res).length c2))) rfl ?_;rw [HRE.out];exact gm.mk HR.out Ls.out HT.out (Ls.out.not HX.out (by omega) (by decide)) (HO.out.lower HW.out) (fun g hg h=>by have:=HN.out g hg;have:=Qr.out g h;omega) (fun h=>by have:=HN.out _ h;have:=HXL.out;omega) 3 0 0 rfl rfl rfl
def Js (ks:List Int) (w:World) (e:Ending) (w':World):Prop:=∃v,e= .returned v/\ea 3 1 fp w' w.heap.size v ks/\Below w.heap.size w w'
def E3 (T X bc q:Nat) (vp v1 v12 vl:Value) (w:World):Prop:=
 w.cell? ⟨T,0,none⟩=some vp/\w.cell? ⟨X,1,none⟩=some v1/\w.cell? ⟨X,12,none⟩=some v12/\w.cell? ⟨bc,q,none⟩=some vl
theorem E3.ext {T X bc q:Nat} {vp v1 v12 vl:Value} {w w':World} (h:E3 T X bc q vp v1 v12 vl w) (he:Ext w w'):E3 T X bc q vp v1 v12 vl w':=⟨he.1 _ _ h.1,he.1 _ _ h.2.1,he.1 _ _ h.2.2.1,he.1 _ _ h.2.2.2⟩
theorem ee.tT {B:Nat} {v:Value} {w0 w w':World} {t:TypeId} {k n:Nat} {xs:List Value} (h:Below w0.heap.size w0 w) (ho:w.ownsRow B t k v n xs) (hB:w0.heap.size <=B) (hk:ee (eH v) w w'):Below w0.heap.size w0 w':=
 h.trans (hk.below h.size (fun i hi=>by have:=(eE ho hi).1;omega))
theorem By (w:World) (FX:Nat ->Bool) (X:Nat) (iv:qg) (m:eI) (h:ju w FX X iv m) (k:Nat) (c:gS) (ty:gN) (hc:m.eA[k]?=some c) (f:Int) (hf:f=((m.imports.length+k:Nat):Int)) (hty:ox m f ty) (hk:m.imports.length+m.funcs.length <=100000) (Np:k <=100000) (hl:ty.params.length+c.locals.length <=100000):
  Calls prog 37 #[.pointer (some ⟨X,0,none⟩), .int .i64 f] w (Js (ty.params++c.locals) w):=by
 have Mm:=(aM.1 hc).1;have LW:=V h;have HC:=V hc;have HF:=V hf;have HIM:=V (show nw m f=false by rw [hf];simp [nw];omega);have hty2:=ru w FX X iv m h ty f hty hk;clear h hc hf hty;go_enter func37,ntmps37;go_wp2_with fail;refine hty2.mono ?_;clear hty2;rintro e w2 ⟨u1,u2,rfl,h1,h2,hb⟩;obtain⟨ap,cp,rfl,-,hcp⟩:=h1.sl;obtain⟨ar,cr,rfl,-,-⟩:=h2.sl;have HP:=V (h1.ext (xz FX w2));have HB:=V (hb.alloc hb.size (.cells #[.slice ap ty.params.length cp, .slice ar ty.results.length cr] 109));have HT:=V (eP.new w2 #[.slice ap ty.params.length cp, .slice ar ty.results.length cr] 109);replace HP:=V (HP.out.ext (Ext.eh ((an w2.heap.size w2).alloc (ag _) (.cells #[.slice ap ty.params.length cp, .slice ar ty.results.length cr] 109))));clear h1 h2 hb;go_wp2_with fail;generalize w2.alloc (.cells #[.slice ap ty.params.length cp, .slice ar ty.results.length cr] 109)=w3 at HP HB HT⊢;refine(mU w3 FX X iv m (LW.out.below HB.out) f).mono ?_;rintro e w4 ⟨rfl,hb⟩;rw [HIM.out];replace HT:=V (HT.out.below hb HT.out.lt).drew;replace HP:=V (HP.out.ext (Ext.eh hb));replace HB:=V (HB.out.trans (hb.mono HB.out.size)).drew;clear hb;have Mh:=LW.out.below HB.out;obtain⟨b,off,cap,u,NJ,Mk,NC,Ml,LN,hi⟩:=et.at Mh.mod.2.2.2.2.2.2.1 HC.out;obtain⟨ai,ci,h1,-,hcim⟩:=Mh.is.2.1.sl;obtain⟨al,cl,hle,-,Ry⟩:=hi.1.1.sl;have x1:w4.drew.cell? ⟨X,1,none⟩=some (.slice ai m.imports.length ci):=by rw [<- h1];exact Mh.km.cell 1
 have x12:w4.drew.cell? ⟨X,12,none⟩=some (.slice (some ⟨b,off,none⟩) m.eA.length cap):=by rw [<- NJ];exact Mh.km.cell 12
 have y1:w4.drew.cell? ⟨b,off+k*2,none⟩=some (.slice al c.locals.length cl):=by
  have:=(gg (LN 0 _ rfl)).2;rw [<- hle];exact this
 have HL:=V (show ew 1 fp w4.drew (.slice al c.locals.length cl) c.locals by rw [<- hle];exact hi.1.1.ext (xz FX _));replace HP:=V (show ew 1 fp w4.drew (.slice ap ty.params.length cp) ty.params from HP.out.ext (Ext.eh (an _ _).drew));have hS:E3 w2.heap.size X b (off+k*2) (.slice ap ty.params.length cp) (.slice ai m.imports.length ci) (.slice (some ⟨b,off,none⟩) m.eA.length cap) (.slice al c.locals.length cl) w4.drew:=⟨HT.out.two.1,x1,x12,y1⟩;clear Mh LN hi NJ h1 hle x1 x12 y1 Ml;have HFF:=HF.out;subst HFF;go_wp2_with fail;refine eu (E3 w2.heap.size X b (off+k*2) (.slice ap ty.params.length cp) (.slice ai m.imports.length ci) (.slice (some ⟨b,off,none⟩) m.eA.length cap) (.slice al c.locals.length cl)) ((1,true)::(2,true)::up 4 16 ((0,false)::(3,false)::(20,false)::(21,true)::[])) (by kernel_rfl) (by kernel_rfl) hS ?_;have HS:=V hS;clear hS;generalize w4.drew=w5 at HT HB HS HL HP⊢;iterate 18 (first | (apply sk rfl rfl;simp only [pt]) | (apply ef rfl rfl rfl;·(rintro w' ⟨t0,t1,t2,t3⟩;go_wp2;exact⟨rfl,rfl,rfl⟩)))
 refine eo rfl rfl ?_;have NF:=(an w5.heap.size w5).alloc (ag _) (.cells #[] 3);have Sa:=V NF;clear NF;go_wp2_with fail;refine⟨HS.out.ext (Ext.eh Sa.out),?_⟩;refine eo rfl rfl ?_;have HO:=V (ea.empty (α:=Int) (t:=3) (k:=1) (enc:=fp) w5);have HP2:=V (HP.out.ext (Ext.eh Sa.out));have Mr:=Sa.out.size;go_wp2_with (first | (at_builtin;refine mo (w5.alloc (.cells #[] 3)) rfl _ _ rfl rfl w5.heap.size (.slice (some ⟨w5.heap.size,0,none⟩) 0 0) [] rfl HO.out _ ty.params rfl HP2.out (by simp only [aL];omega) Mr ?_));intro v6 w6 ho PZ hs6;have Ov:Below w5.heap.size w5 w6:=ee.tT Sa.out HO.out (ag _) PZ;have HO6:=V (show ea 3 1 fp w6 w5.heap.size v6 ty.params from ho);have HB6:=V Ov;clear ho PZ hs6 Ov;obtain⟨a6,c6,rfl,-,-⟩:=HO6.out.slice;go_wp2_with fail;refine⟨HS.out.ext (Ext.eh HB6.out),?_⟩;refine eo rfl rfl ?_;have QY:=V (HL.out.ext (Ext.eh HB6.out));have hsz6:=HB6.out.size;go_wp2_with (first | (at_builtin;refine mo w6 rfl _ _ rfl rfl w5.heap.size (.slice a6 ty.params.length c6) ty.params rfl HO6.out _ c.locals rfl QY.out (by omega) hsz6 ?_));intro v7 w7 ho hk7 hs7;have HB7:=V (ee.tT HB6.out HO6.out (ag _) hk7);have HO7:=V ho;clear ho hk7 hs7;go_wp2_with fail;refine⟨HS.out.ext (Ext.eh HB7.out),?_⟩;iterate 1 (first | (apply sk rfl rfl;simp only [pt]) | (apply ef rfl rfl rfl;·(rintro w' ⟨t0,t1,t2,t3⟩;go_wp2;exact⟨rfl,rfl,rfl⟩)))
 refine eV ?_;refine aD ?_;go_wp2_with fail;go_ret;exact⟨_,rfl,HO7.out.lower HB.out.size,HB.out.trans (HB7.out.mono HB.out.size)⟩
theorem Eo {w:World} {B:Nat} {v:Value} {ks:List Int} (h:ea 3 1 fp w B v ks) (n:Nat) (hn:n <=ks.length):
  ∃a cap dp,v= .slice a ks.length cap/\cap <=9223372036854775807/\(∀wx,(Instr.slice 25 (.slice a ks.length cap) (some (.int .i64 n)) none none).run prog wx= .ok (.slice dp (ks.length - n) (cap - n)) wx)/\
   ∀(w':World) (B':Nat),ea 3 1 fp w' B' (.slice a ks.length cap) ks ->ew 1 fp w' (.slice dp (ks.length - n) (cap - n)) (ks.drop n):=by
 have hi:=h.fR fH;obtain⟨a,cap,rfl,h1,h2,-⟩:=hi;by_cases q:n < ks.length
 ·obtain⟨g,LO,cur,hv,-,hg,-⟩:=h.open (by intro e;rw [e]at q;simp at q)
  injection hv with e1 _ e2;subst e1 e2;refine⟨_,cap,some ⟨g,n,none⟩,rfl,by simpa [maxLen] using h2,fun wx=>kE g _ cap n q h1 wx,fun w' B' h'=>⟨some ⟨g,n,none⟩,cap - n,by rw [bu],by rw [bu];omega,by omega,fun i x hx=>?_⟩⟩;obtain⟨a',LO,Qj,_,_,h3⟩:=h'.fR fH;injection Qj with e3 _ e4;subst e3 e4;rw [List.getElem?_drop]at hx;obtain⟨b,off,he,Lw,hc⟩:=h3 (n+i) x hx;injection he with he;injection he with e3 e4;subst e3 e4;refine⟨g,n,rfl,Lw,fun j u hu=>?_⟩;have:=hc j u hu;rw [<- this]
  congr 2
  omega
 ·obtain rfl:n=ks.length:=by omega
  have ha:a=none ->cap=0:=by
   intro e;obtain⟨_,hv | ⟨g,LO,cur,hv,-⟩⟩:=h
   ·have:=hv.1
    injection this
   ·rw [e]at hv
    injection hv with e1;cases e1
  obtain⟨dp,hr⟩:=o9 a ks.length cap h1 ha;refine⟨a,cap,dp,rfl,by simpa [maxLen] using h2,fun wx=>by rw [hr wx,dk],fun w' B' h'=>⟨dp,cap - ks.length,by simp,by simp,by omega,?_⟩⟩;simp
def zv (k:Int):fm:=⟨k,0⟩
def qZ (ks:List Int) (s:gV) (f:Int) (args:List fm):jv × gV:=
 if 32 <=s.ey.length then(.full,s)else(.more,⟨s.ej,s.ey++[⟨f,0,args++(ks.drop args.length).map zv,s.ej.length,[]⟩],s.asks⟩)
def KF (args:List fm) (kv:Value) (ks rest:List Int) (w2 w':World) (v:Value) (i:Nat):Prop:=i <=rest.length/\ea 3 1 fp w' 0 kv ks/\ea 42 2 gw w' w2.heap.size v (args++(rest.take i).map zv)/\Below w2.heap.size w2 w'
theorem F3 (w:World) (FX:Nat ->Bool) (X b:Nat) (iv:qg) (m:eI) (pre post:List Value) (t:TypeId) (v:qz) (s:gV) (k:Nat) (c:gS) (ty:gN) (fn:Int) (args:List fm) (va:Value)
  (LI:fV w b pre post t v s) (Mh:ju w FX X iv m) (hc:m.eA[k]?=some c) (hf:fn=((m.imports.length+k:Nat):Int)) (hty:ox m fn ty) (hk:m.imports.length+m.funcs.length <=100000) (Np:k <=100000) (hl:ty.params.length+c.locals.length <=100000)
  (ha:ew 2 gw w va args) (NN:args.length <=(ty.params++c.locals).length) (hn:s.ej.length <=50000) (Lp:s.ey.length <=50000):
  Calls prog 11 #[.pointer (some ⟨X,0,none⟩), .pointer (some ⟨b,pre.length,none⟩), .int .i64 fn,va] w (gm b pre post t v (qZ (ty.params++c.locals) s fn args) w):=by
 obtain⟨ej,ey,asks⟩:=s;obtain⟨uv,uf,us⟩:=v;obtain⟨av,cv,Rz,-,NC⟩:=LI.ej.slice;obtain⟨af,cf,huf,-,hcfm⟩:=LI.ey.slice;have hzl:(ey.zip us).length=ey.length:=by rw [bJ,LI.rows.len,cd]
 simp only at Rz huf hn Lp;rw [hzl]at huf;subst Rz huf;obtain⟨aa,ca,rfl,-,hcam⟩:=id ha;unfold maxLen at hcam;have LQ:=(an w.heap.size w).alloc (ag _) (.cells #[.int .i64 0, .int .i64 0, .int .i64 0, .slice none 0 0] 32);have HX:=V (eP.new w #[.int .i64 0, .int .i64 0, .int .i64 0, .slice none 0 0] 32);have PW:=V LI;have Ls:=V (LI.below LQ);have LW:=V (Mh.below LQ);have HA:=V (ha.ext (Ext.eh LQ));have HT:=V (kn.eh (v:=⟨.slice av ej.length cv, .slice af ey.length cf,us⟩) (b:=b) LQ);have HB:=V LQ;have HC:=V hc;have HF:=V hf;have HTY:=V hty;have Ml:=LI.km.lt;have c0:World.cell? _ ⟨b,pre.length,none⟩=some (.slice av ej.length cv):=Ls.out.c0;have c1:World.cell? _ ⟨b,pre.length+1,none⟩=some (.slice af ey.length cf):=Ls.out.c1;clear LI Mh ha LQ hc hf hty hzl;by_cases q:32 <=ey.length
 ·have f1:decide ((32:Int) <=(ey.length:Int))=true:=aA (by omega)
  have f2:decide (32 <=ey.length)=true:=aA q;have HR:=V (show qZ (ty.params++c.locals) ⟨ej,ey,asks⟩ fn args=(.full,⟨ej,ey,asks⟩)by unfold qZ;rw [if_pos q]);clear q;go_enter func11,ntmps11;go_wp2_with fail;refine(zi _).mono ?_;rintro e w2 ⟨rfl,hb⟩;replace HX:=V (HX.out.below hb HX.out.lt);replace Ls:=V (Ls.out.below hb);replace HT:=V (HT.out.below hb);clear hb c0 c1;obtain⟨⟨x0,x1,x2,x3⟩,z0,z1,z2,z3⟩:=HX.out.four;go_wp2_with fail;refine aN (eG rfl _ _ rfl (nA HX.out rfl 5 0 0 (.slice none 0 0))) rfl ?_;exact gm.mk HR.out Ls.out HT.out PW.out.ug (ea.nil _ _) (fun g hg=>by simp [eH,Value.ownBlock]at hg) (by simp [eH,Value.ownBlock]) 5 0 0 rfl rfl rfl
 ·have f1:decide ((32:Int) <=(ey.length:Int))=false:=aq (by omega)
  have f2:decide (32 <=ey.length)=false:=aq q;obtain⟨rest,Ma⟩:∃rest,(ty.params++c.locals).drop args.length=rest:=⟨_,rfl⟩;have hrl:rest.length <=100000:=by rw [<- Ma,bu,ah];omega
  have HR:=V (show qZ (ty.params++c.locals) ⟨ej,ey,asks⟩ fn args=(.more,⟨ej,ey++[⟨fn,0,args++rest.map zv,ej.length,[]⟩],asks⟩)by unfold qZ;rw [if_neg q,Ma]);have hargl:args.length <=100000:=by rw [ah]at NN;omega
  have HRS:=V Ma;have NT:=HR;clear q Ma HR;go_enter func11,ntmps11;go_wp2_with fail;generalize(w.alloc (.cells #[.int .i64 0, .int .i64 0, .int .i64 0, .slice none 0 0] 32))=w2 at HX Ls LW HA HT HB c0 c1⊢;refine(oV _ args w2 HA.out (by omega)).mono ?_;rintro e w3 ⟨lv,rfl,Sf,hb⟩;obtain⟨a3,c3,rfl,-,-⟩:=Sf.slice;have PM:=V Sf;have Q7:=V hb;clear Sf hb f1 f2;go_wp2_with fail;refine(By w3 FX X iv m (LW.out.below Q7.out) k c ty HC.out fn HF.out HTY.out hk Np hl).mono ?_;rintro e w4 ⟨kv,rfl,hko,hb⟩;obtain⟨ks,hks⟩:∃ks,ty.params++c.locals=ks:=⟨_,rfl⟩;have HRK:=V HRS.out;rw [hks]at hko NN HRK;obtain⟨ak,ck,dp,rfl,hckm,LA,hrk⟩:=Eo hko args.length NN;have hrl2:ks.length - args.length=rest.length:=by rw [<- HRK.out,bu]
  clear hks;rw [hrl2]at LA hrk;have HKO:=V (hko.lower (bA w3.heap.size));rw [HRK.out]at hrk;have HLO4:=V (PM.out.below hb);have HB4:=V (Q7.out.trans (hb.mono Q7.out.size));have HRK:=V hrk;clear hko hb hrk hrl2 NN;go_wp2_with fail;clear LA;refine eJ (fun a' w'=>∃(i:Nat) (v:Value),a'=fr (.pointer (some ⟨X,0,none⟩):: .pointer (some ⟨b,pre.length,none⟩):: .int .i64 fn:: .slice aa args.length ca::gs a' 4 4 (.pointer (some ⟨w.heap.size,0,none⟩)::v::gs a' 10 16 (.slice dp rest.length (ck - args.length):: .int .i64 rest.length:: .int .i64 i::gs a' 29 27 [])))/\KF args (.slice ak ks.length ck) ks rest w2 w' v i) (fun a' _=>(rest.length - (intOf (a'.tmps.getD 28 undef)).toNat)) ?_ ?_
  ·exact⟨0,_,rfl,bA _,HKO.out,by simpa using HLO4.out,HB4.out⟩
  ·skip
   rintro R a' w1 ⟨i,v,Lp,hJ⟩ HR;dsimp only [fr,gs]at Lp;generalize slot a'=f at Lp;subst Lp;obtain⟨hi,hks,Sf,hb⟩:=hJ;have HKS:=V hks;have HRW:=V (HRK.out w1 0 hks);have PM:=V Sf;have HB5:=V hb;obtain⟨a5,c5,Mx,-,-⟩:=Sf.slice;have Pa:(args++(rest.take i).map zv).length=args.length+i:=by simp;omega
   rw [Pa]at Mx;subst Mx;clear Sf hb hks;by_cases q:i < rest.length
   ·obtain⟨x,hx⟩:∃x,rest[i]?=some x:=⟨_,aw q⟩
    obtain⟨bk,offk,capk,Mx,-,-,hbkl,LN⟩:=ew.at HRW.out hx;injection Mx with e1 e2 e3;subst e1;have y0:w1.cell? ⟨bk,offk+i,none⟩=some (.int .i64 x):=by
     have:=LN 0 _ rfl
     rwa [bq,aK]at this
    have HXI:=V hx;have Mr:=HB5.out.size;clear hx LN e2 e3 hbkl;go_wp2_with (first | (at_builtin;refine fb w1 rfl _ _ 30 rfl _ 16 (by kernel_rfl) lC rfl (by decide) (by decide) w2.heap.size (.slice a5 (args.length+i) c5) (args++(rest.take i).map zv) rfl PM.out (zv x) _ rfl rfl (mi _) rfl (by rw [Pa];omega) Mr ?_));intro v6 w6 ho PZ hs6;have HB6:=V (ee.tT HB5.out PM.out (ag _) PZ);have HK6:=V (HKS.out.keeps PZ (fun g hg h=>ea.ne HKS.out PM.out (by decide) g hg h));have HO6:=V ho;clear ho PZ hs6;go_wp2_with fail;refine HR.out _ _ ⟨i+1,v6,rfl,by omega,HK6.out,?_,HB6.out⟩ ?_
    ·have h:=HO6.out
     rw [aR,HXI.out];simpa using h
    ·simp [intOf]
     omega
   ·obtain rfl:i=rest.length:=by omega
    obtain⟨L,hL⟩:∃L,args++(rest.take rest.length).map zv=L:=⟨_,rfl⟩;have NS:=V (show qZ (ty.params++c.locals) ⟨ej,ey,asks⟩ fn args=(.more,⟨ej,ey++[⟨fn,0,L,ej.length,[]⟩],asks⟩)by rw [NT.out, <- hL,aV]);rw [hL]at PM Pa;rw [<- Pa]at PM⊢;have HOL:=V (fun g (hg:eH (.slice a5 L.length c5) g)=>(eE PM.out hg).1);have HLT:=V (fun g hg=>Ls.out.lt (g:=g) hg);have Ov:=HB5.out.drew;have HX7:=V (HX.out.below Ov HX.out.lt);have PX:=V (Ls.out.below Ov);have HT7:=V (HT.out.below Ov);have HL7:=V (show ea 42 2 gw w1.drew 0 (.slice a5 L.length c5) L from PM.out.lower (bA _));have hS:w1.drew.cell? ⟨b,pre.length+1,none⟩=some (.slice af ey.length cf)/\w1.drew.cell? ⟨b,pre.length,none⟩=some (.slice av ej.length cv):=⟨PX.out.c1,PX.out.c0⟩;have LH:=V HT.out.1.size;clear hL Pa Ov c0 c1 HR HRW HKS HB5 PM;go_wp2_with fail;refine eX (fun w'=>w'.cell? ⟨b,pre.length+1,none⟩=some (.slice af ey.length cf)/\w'.cell? ⟨b,pre.length,none⟩=some (.slice av ej.length cv)) 17 (up 0 13 ((13,false)::(14,false)::(15,true)::(16,true)::[])) (by kernel_rfl) (by kernel_rfl) hS ?_;clear hS;generalize w1.drew=w7 at HX7 PX HT7 HL7⊢;iterate 13 (first | (apply sk rfl rfl;simp only [pt]) | (apply ef rfl rfl rfl;·(rintro w' ⟨t0,t1⟩;go_wp2;exact⟨rfl,rfl,rfl⟩)))
    refine eo rfl rfl ?_;go_wp2_with fail;refine⟨⟨(PX.out.alloc _).c1,(PX.out.alloc _).c0⟩,?_⟩;refine eo rfl rfl ?_;have hzl:(ey.zip us).length=ey.length:=by rw [bJ,PX.out.rows.len,cd]
    have HZL:=V hzl;clear hzl;go_wp2_with (first | (at_builtin;refine fb w7 rfl _ _ 35 rfl _ 72 (by kernel_rfl) ns rfl (by decide) (by decide) 0 (.slice af ey.length cf) (ey.zip us) rfl PX.out.ey ((⟨fn,0,L,ej.length,[]⟩:fc),((.slice a5 L.length c5:Value),(.slice none 0 0:Value))) _ rfl rfl (by intro z hz;simp only [mg,bB,bN,cY]at hz;rcases hz with rfl | rfl | rfl | rfl | rfl <;>rfl) rfl (by rw [HZL.out];omega) (bA _) ?_));intro v8 w8 ho hk hs;obtain⟨a8,c8,Mx,-,-⟩:=ho.slice;rw [ah,HZL.out,aB]at Mx;subst Mx;have LK:=PX.out.CF hk;have HP:=V (PX.out.DL (f:=⟨fn,0,L,ej.length,[]⟩) (u:=((.slice a5 L.length c5:Value),(.slice none 0 0:Value))) ⟨HL7.out,ea.nil _ _⟩
     (fun g hg h=>hg.elim (fun hg=>by have:=HOL.out g hg;have:=HLT.out g h;omega) (fun hg=>by simp [eH,Value.ownBlock]at hg))
     (fun g hg h=>hg.elim (fun hg=>by have:=HOL.out g hg;have:=HLT.out g (.inr (.inr (.inl h)));omega) (fun hg=>by simp [eH,Value.ownBlock]at hg)) ho hk hs)
    have c1:w8.cell? ⟨b,pre.length+1,none⟩=some (.slice af ey.length cf):=(LK.1.cell _).trans (yP _ _ _ _);have c0:w8.cell? ⟨b,pre.length,none⟩=some (.slice av ej.length cv):=(LK.1.cell _).trans (rE _ _ _ _);have z1:=LK.1.free (pre.length+1);have HX8:=V (HX7.out.keeps hk (fun hg=>ea.gK PX.out.ey HX7.out (by decide) _ hg rfl));clear LK hk hs ho;go_wp2_with fail;refine⟨⟨c1,c0⟩,?_⟩;iterate 2 (first | (apply sk rfl rfl;simp only [pt]) | (apply ef rfl rfl rfl;·(rintro w' ⟨t0,t1⟩;go_wp2;exact⟨rfl,rfl,rfl⟩)))
    refine fP rfl rfl ?_;go_wp2_with fail;refine⟨trivial,?_⟩;refine aD ?_;clear c0 c1 z1;obtain⟨h1,h2,h3⟩:=HP.out;have HX9:=V (HX8.out.keeps (eC w8 b (pre.length+1) (.slice a8 (ey.length+1) c8)) (by omega));have HST9:=V h1;have HT9:=V (show kn _ ⟨.slice av ej.length cv, .slice a8 (ey.length+1) c8,us++[((.slice a5 L.length c5:Value),(.slice none 0 0:Value))]⟩ b w _ from⟨HT7.out.1.trans h2 (fun g hg=> .inl hg),fun g hg=>by
     rcases h3 g hg with h | (h | h) | h
     ·exact .inl h
     ·have:=HOL.out g h
      have:=LH.out;exact .inr (by omega)
     ·simp [eH,Value.ownBlock]at h
     ·have:=HT7.out.1.size
      exact .inr (by omega)⟩)
    clear h1 h2 h3 HP;generalize w8.setCell ⟨b,pre.length+1,none⟩ (.slice a8 (ey.length+1) c8)=w9 at HX9 HST9 HT9⊢;go_wp2_with fail;refine(pf _).mono ?_;rintro e w10 ⟨rfl,hb⟩;replace HX9:=V (HX9.out.below hb HX9.out.lt);replace HST9:=V (HST9.out.below hb);replace HT9:=V (HT9.out.below hb);clear hb;obtain⟨⟨x0,x1,x2,x3⟩,z0,z1,z2,z3⟩:=HX9.out.four;go_wp2_with fail;refine aN (eG rfl _ _ rfl (nA HX9.out rfl 1 0 0 (.slice none 0 0))) rfl ?_;exact gm.mk NS.out HST9.out HT9.out (HST9.out.not HX9.out (by omega) (by decide)) (ea.nil _ _) (fun g hg=>by simp [eH,Value.ownBlock]at hg) (by simp [eH,Value.ownBlock]) 1 0 0 rfl rfl rfl
theorem gm.pass {w w3 w4:World} {b R:Nat} {pre post:List Value} {t:TypeId} {v v':qz} {r:jv × gV} {s:gV} {vv:Value} {xs:Array Value} (hb:Below w.heap.size w w3) (hX:eP w3 R xs 32) (hR:w.heap.size <=R) (hRb:R≠b) (h3:fV w3 b pre post t v s)
  (hs:fV w4 b pre post t v' r.2) (ht:kn v v' b w3 w4) (ho:ea 42 2 gw w4 w3.heap.size vv r.1.ej) (hn:∀g,eH vv g ->¬ v'.own b g) (a1 a2 a3:Int) (h1:r.1.kind=a1) (h2:r.1.qx=a2) (h4:r.1.fn=a3):
  gm b pre post t v r w (.returned (.agg #[.int .i64 a1, .int .i64 a2, .int .i64 a3,vv])) (lK w4 R a1 a2 a3 vv):=by
 subst h1 h2 h4;have Lt:=gJ w4 R r.1.kind r.1.qx r.1.fn vv;have hX4:=hX.keeps ht.1 (h3.not hX hRb (by decide));have hRn:¬ v'.own b R:=hs.not hX4 hRb (by decide);have hRl:=hX.lt;refine⟨v',vv,rfl,hs.keeps Lt (fun g hg e=>hRn (e▸hg)),⟨((ee.eh hb).trans ht.1 (fun g hg=> .inl hg)).trans Lt (fun i hi=> .inr (by omega)),fun g hg=>(ht.2 g hg).imp id (fun h=>aW hb.size h)⟩,?_,hn⟩;exact(ho.keeps Lt (fun g hg e=>by have:=(eE ho hg).1;omega)).lower hb.size
theorem ji {w2:World} {R:Nat} {xs:Array Value} (hx:eP w2 R xs 32) (hs:xs.size=4) (a b c:Int) (v:Value):
  (loadVar 32 ⟨R,0,none⟩).run prog (lK w2 R a b c v)= .ok (.agg #[.int .i64 a, .int .i64 b, .int .i64 c,v]) (lK w2 R a b c v):=by
 obtain⟨x0,x1,x2,x3,rfl⟩:∃x0 x1 x2 x3,xs=#[x0,x1,x2,x3]:=by
  match xs,hs with
  | ⟨[x0,x1,x2,x3]⟩,_=>exact⟨x0,x1,x2,x3,rfl⟩
 exact(hx.sx _ _ _ _).pQ
theorem yC (w:World) (k n:Int):ew 2 gw (w.alloc (.cells #[.int .i64 k, .int .i64 n] 42)) (.slice (some ⟨w.heap.size,0,none⟩) 1 1) [⟨k,n⟩]:=by
 have hx:=eP.new w #[.int .i64 k, .int .i64 n] 42;have ho:ea 42 2 gw (w.alloc (.cells #[.int .i64 k, .int .i64 n] 42)) w.heap.size (.slice (some ⟨w.heap.size,0,none⟩) 1 1) [⟨k,n⟩]:=
  ⟨by simp [gw], .inr ⟨w.heap.size,1,_,rfl,ag _,hx,by simp,by simp [maxLen],by simp,by simp [gw]⟩⟩
 exact ho.fR gB
theorem KS (w:World) (D X b g J cap:Nat) (pre post:List Value) (t:TypeId) (uv:Value) (us:List (Value × Value)) (u:Value × Value) (ej:List fm) (lo:List fc) (f:fc) (asks:Int) (a:Int) (bb:Int) (al:Option Addr) (nl cl:Nat)
  (LI:fV w b pre post t ⟨uv, .slice (some ⟨g,0,none⟩) (lo.length+1) cap,us++[u]⟩ ⟨ej,lo++[f],asks⟩) (hd:jO w D X b pre.length g (lo.length*5) J) (hn:ej.length <=50000) (Ot: -1 <=f.pc/\f.pc <=1000000):
  Calls prog 23 #[.pointer (some ⟨D,0,none⟩), .agg #[.int .i64 1, .int .i64 a, .int .i64 bb, .slice al nl cl]] w (gm b pre post t ⟨uv, .slice (some ⟨g,0,none⟩) (lo.length+1) cap,us++[u]⟩ (kP ej [] ⟨ej,lo++[f],asks⟩ lo f) w):=by
 have LC:=(an w.heap.size w).alloc (ag _) (.cells #[.int .i64 1, .int .i64 a, .int .i64 bb, .slice al nl cl] 27);have Lr:=LC.alloc LC.size (.cells #[.int .i64 0, .int .i64 0, .int .i64 0, .slice none 0 0] 32);have OR:=(eP.new w #[.int .i64 1, .int .i64 a, .int .i64 bb, .slice al nl cl] 27).alloc (.cells #[.int .i64 0, .int .i64 0, .int .i64 0, .slice none 0 0] 32);have Nq:=eP.new (w.alloc (.cells #[.int .i64 1, .int .i64 a, .int .i64 bb, .slice al nl cl] 27)) #[.int .i64 0, .int .i64 0, .int .i64 0, .slice none 0 0] 32;rw [aE]at Nq;have Ml:=LI.km.lt;have HI:=V OR;have HX:=V Nq;have HB:=V Lr;have Ls:=V (LI.below Lr);have HD:=V (hd.below Lr);clear LC Lr OR Nq LI hd;go_enter func23,ntmps23;go_wp2_with fail;obtain⟨w2,N8⟩:∃w2,w2=(w.alloc (.cells #[.int .i64 1, .int .i64 a, .int .i64 bb, .slice al nl cl] 27)).alloc (.cells #[.int .i64 0, .int .i64 0, .int .i64 0, .slice none 0 0] 32):=⟨_,rfl⟩;rw [<- N8]at HI HX HB Ls HD⊢;have HSZ:=V (show w2.heap.size=w.heap.size+1+1 by rw [N8];simp);clear N8;refine(ry _ D X b g J cap pre post t uv us u ej [] [] lo f asks _ 0 rfl (by rw [bO];exact Ls.out) HD.out (ew.nil _) (by simp;omega) Ot).mono ?_;rw [bO];rintro e w4 ⟨v',vv,rfl,Nr,NV,Nb,O8⟩;obtain⟨r,hr⟩:∃r,(kP ej [] ⟨ej,lo++[f],asks⟩ lo f)=r:=⟨_,rfl⟩;rw [hr]at Nr Nb⊢;have NT:=V hr;obtain⟨Qs,Qt,rfl,-,-⟩:=Nb.slice;have N5:=V (HX.out.keeps NV.1 (Ls.out.not HX.out (by omega) (by decide)));have PG:=V Nr;have Qi:=V NV;have NR:=V Nb;have QS:=V O8;clear Nr NV Nb O8 hr;simp only [oy];obtain⟨⟨x0,x1,x2,x3⟩,z0,z1,z2,z3⟩:=N5.out.four;go_wp2_with fail;refine aN (eG rfl _ _ rfl (ji N5.out rfl r.1.kind r.1.qx r.1.fn (.slice Qs r.1.ej.length Qt))) rfl ?_;rw [NT.out];exact gm.pass HB.out HX.out (by omega) (by omega) Ls.out PG.out Qi.out NR.out QS.out _ _ _ rfl rfl rfl
theorem Hd (w:World) (D X b g J cap:Nat) (pre post:List Value) (t:TypeId) (uv:Value) (us:List (Value × Value)) (u:Value × Value) (ej:List fm) (lo:List fc) (f:fc) (asks:Int) (a:Int) (bb:Int) (al:Option Addr) (nl cl:Nat)
  (LI:fV w b pre post t ⟨uv, .slice (some ⟨g,0,none⟩) (lo.length+1) cap,us++[u]⟩ ⟨ej,lo++[f],asks⟩) (hd:jO w D X b pre.length g (lo.length*5) J) (hn:ej.length <=50000) (Ot: -1 <=f.pc/\f.pc <=1000000):
  Calls prog 23 #[.pointer (some ⟨D,0,none⟩), .agg #[.int .i64 65, .int .i64 a, .int .i64 bb, .slice al nl cl]] w (gm b pre post t ⟨uv, .slice (some ⟨g,0,none⟩) (lo.length+1) cap,us++[u]⟩ (kP ej [⟨1,a⟩] ⟨ej,lo++[f],asks⟩ lo f) w):=by
 have LC:=(an w.heap.size w).alloc (ag _) (.cells #[.int .i64 65, .int .i64 a, .int .i64 bb, .slice al nl cl] 27);have Lr:=LC.alloc LC.size (.cells #[.int .i64 0, .int .i64 0, .int .i64 0, .slice none 0 0] 32);have OR:=(eP.new w #[.int .i64 65, .int .i64 a, .int .i64 bb, .slice al nl cl] 27).alloc (.cells #[.int .i64 0, .int .i64 0, .int .i64 0, .slice none 0 0] 32);have Nq:=eP.new (w.alloc (.cells #[.int .i64 65, .int .i64 a, .int .i64 bb, .slice al nl cl] 27)) #[.int .i64 0, .int .i64 0, .int .i64 0, .slice none 0 0] 32;rw [aE]at Nq;have Ml:=LI.km.lt;have HI:=V OR;have HX:=V Nq;have HB:=V Lr;have Ls:=V (LI.below Lr);have HD:=V (hd.below Lr);clear LC Lr OR Nq LI hd;have y1:=HI.out.cell 1;simp only [aI,aG,aU]at y1;go_enter func23,ntmps23;go_wp2_with fail;obtain⟨w2,N8⟩:∃w2,w2=(w.alloc (.cells #[.int .i64 65, .int .i64 a, .int .i64 bb, .slice al nl cl] 27)).alloc (.cells #[.int .i64 0, .int .i64 0, .int .i64 0, .slice none 0 0] 32):=⟨_,rfl⟩;rw [<- N8]at HI HX HB Ls HD⊢;have HSZ:=V (show w2.heap.size=w.heap.size+1+1 by rw [N8];simp);clear N8;clear y1;have hb:=(an w2.heap.size w2).alloc (ag _) (.cells #[.int .i64 1, .int .i64 a] 42);have HP:=V (yC w2 1 a);replace HX:=V (HX.out.below hb HX.out.lt);replace HB:=V (HB.out.trans (hb.mono HB.out.size));replace Ls:=V (Ls.out.below hb);replace HD:=V (HD.out.below hb);clear hb;rw [HSZ.out]at HP;refine(ry _ D X b g J cap pre post t uv us u ej [] [⟨1,a⟩] lo f asks _ 0 rfl (by rw [bO];exact Ls.out) HD.out HP.out (by simp;omega) Ot).mono ?_;rw [bO];rintro e w4 ⟨v',vv,rfl,Nr,NV,Nb,O8⟩;obtain⟨r,hr⟩:∃r,(kP ej [⟨1,a⟩] ⟨ej,lo++[f],asks⟩ lo f)=r:=⟨_,rfl⟩;rw [hr]at Nr Nb⊢;have NT:=V hr;obtain⟨Qs,Qt,rfl,-,-⟩:=Nb.slice;have N5:=V (HX.out.keeps NV.1 (Ls.out.not HX.out (by omega) (by decide)));have PG:=V Nr;have Qi:=V NV;have NR:=V Nb;have QS:=V O8;clear Nr NV Nb O8 hr;simp only [oy];obtain⟨⟨x0,x1,x2,x3⟩,z0,z1,z2,z3⟩:=N5.out.four;go_wp2_with fail;refine aN (eG rfl _ _ rfl (ji N5.out rfl r.1.kind r.1.qx r.1.fn (.slice Qs r.1.ej.length Qt))) rfl ?_;rw [NT.out];exact gm.pass HB.out HX.out (by omega) (by omega) Ls.out PG.out Qi.out NR.out QS.out _ _ _ rfl rfl rfl
theorem D3 (w:World):Calls prog 42 #[.int .i64 1, .int .i64 5] w (jB (.agg #[.int .i64 1, .int .i64 5]) w):=by
 go_enter func42,ntmps42;go_wp2_with fail;exact aN (eG rfl _ _ rfl (eP.new w #[.int .i64 1, .int .i64 5] 42).mN) rfl ⟨rfl,(an _ _).alloc (ag _) _⟩
theorem Bj (w:World):Calls prog 139 #[.int .i64 1] w (jB (.int .i64 32) w):=by
 go_enter func139,ntmps139;go_wp2_with fail;go_ret;exact⟨rfl,an _ _⟩
theorem EF (w:World):Calls prog 136 #[.agg #[.int .i64 1, .int .i64 3]] w (jB (.int .u64 3) w):=by
 go_enter func136,ntmps136;go_wp2_with fail;go_ret;exact⟨rfl,(an _ _).alloc (ag _) _⟩
theorem AE (w:World) (a b c d:Int):Below w.heap.size w ((w.alloc (.cells #[.int .i64 a, .int .i64 b] 42)).alloc (.cells #[.int .i64 c, .int .i64 d] 42))/\
  eP ((w.alloc (.cells #[.int .i64 a, .int .i64 b] 42)).alloc (.cells #[.int .i64 c, .int .i64 d] 42)) w.heap.size #[.int .i64 a, .int .i64 b] 42/\
  eP ((w.alloc (.cells #[.int .i64 a, .int .i64 b] 42)).alloc (.cells #[.int .i64 c, .int .i64 d] 42)) (w.heap.size+1) #[.int .i64 c, .int .i64 d] 42:=by
 have hb:=(an w.heap.size w).alloc (ag _) (.cells #[.int .i64 a, .int .i64 b] 42);refine⟨hb.alloc hb.size _,(eP.new w _ _).alloc _,?_⟩;have:=eP.new (w.alloc (.cells #[.int .i64 a, .int .i64 b] 42)) #[.int .i64 c, .int .i64 d] 42
 rwa [aE]at this
theorem C7 (w:World):Calls prog 144 #[.int .i64 106, .agg #[.int .i64 1, .int .i64 2], .agg #[.int .i64 1, .int .i64 3]] w (jB (.int .i64 5) w):=by
 obtain⟨LQ,ha0,MV⟩:=AE w 1 2 1 3;go_enter func144,ntmps144;go_wp2_with fail;generalize(w.alloc (.cells #[.int .i64 1, .int .i64 2] 42)).alloc (.cells #[.int .i64 1, .int .i64 3] 42)=w1 at LQ ha0 MV⊢;refine(Bj w1).mono ?_;rintro e w2 ⟨rfl,hb⟩;replace ha0:=ha0.below hb ha0.lt;replace MV:=MV.below hb MV.lt;replace LQ:=LQ.trans (hb.mono LQ.size);clear hb;obtain⟨x0,x1,-,-⟩:=MV.two;go_wp2_with fail;clear x0 x1;refine(EF w2).mono ?_;rintro e w3 ⟨rfl,hb⟩;replace ha0:=ha0.below hb ha0.lt;replace MV:=MV.below hb MV.lt;replace LQ:=LQ.trans (hb.mono LQ.size);clear hb;obtain⟨x0,x1,-,-⟩:=MV.two;obtain⟨y0,y1,-,-⟩:=ha0.two;go_wp2_with fail;go_ret;exact⟨rfl,LQ⟩
def Br (X Y bl off:Nat) (w:World):Prop:=
 (w.cell? ⟨X,0,none⟩=some (.int .i64 1)/\w.cell? ⟨X,1,none⟩=some (.int .i64 2))/\(w.cell? ⟨Y,0,none⟩=some (.int .i64 1)/\w.cell? ⟨Y,1,none⟩=some (.int .i64 3))/\w.cell? ⟨bl,off,none⟩=some (.int .i64 1)/\w.cell? ⟨bl,off+1,none⟩=some (.int .i64 1)
theorem Br.below {X Y bl off:Nat} {w w':World} (h:Br X Y bl off w) (hb:Below w.heap.size w w'):Br X Y bl off w':=by
 obtain⟨⟨h1,h2⟩,⟨h3,h4⟩,h5,h6⟩:=h;have k:=(Ext.eh hb).1;exact⟨⟨k _ _ h1,k _ _ h2⟩,⟨k _ _ h3,k _ _ h4⟩,k _ _ h5,k _ _ h6⟩
theorem F9 (w:World):Calls prog 88 #[.int .i64 106, .agg #[.int .i64 1, .int .i64 2], .agg #[.int .i64 1, .int .i64 3]] w (jB (.tuple #[.agg #[.int .i64 1, .int .i64 5], .int .i64 0]) w):=by
 obtain⟨LQ,ha0,MV⟩:=AE w 1 2 1 3;have HB:=V (LQ.alloc LQ.size (.cells #[.int .i64 0, .int .i64 0] 42));have HA:=V (ha0.alloc (.cells #[.int .i64 0, .int .i64 0] 42));have HC:=V (MV.alloc (.cells #[.int .i64 0, .int .i64 0] 42));have hx:=eP.new ((w.alloc (.cells #[.int .i64 1, .int .i64 2] 42)).alloc (.cells #[.int .i64 1, .int .i64 3] 42)) #[.int .i64 0, .int .i64 0] 42;simp only [aE]at hx;have HX:=V hx;clear LQ ha0 MV hx;go_enter func88,ntmps88;go_wp2_with fail;generalize((w.alloc (.cells #[.int .i64 1, .int .i64 2] 42)).alloc (.cells #[.int .i64 1, .int .i64 3] 42)).alloc (.cells #[.int .i64 0, .int .i64 0] 42)=w1 at HB HA HC HX⊢;refine(qE 106 w1 (w.heap.size+1+1) HX.out.lt).mono ?_;rintro e w2 ⟨kv,rfl,hl,hb⟩;have hk:fh 106=([1,1],1,true):=by decide+kernel
 rw [hk]at hl⊢;obtain⟨bl,off,cap,rfl,-,Mk,-,M9⟩:=ew.at (i:=0) hl rfl;obtain⟨bl2,LV,Lu,he,-,-,-,Mj⟩:=ew.at (i:=1) hl rfl;injection he with Nk _ _;injection Nk with Nk;injection Nk with Nk Nw;subst Nk Nw;have k0:w2.cell? ⟨bl,off,none⟩=some (.int .i64 1):=(gg (M9 0 _ rfl)).2;have Ml:bl≠w.heap.size+1+1:=by
  have:=(gg (M9 0 _ rfl)).1;simpa using this
 have k1:w2.cell? ⟨bl,off+1,none⟩=some (.int .i64 1):=(gg (Mj 0 _ rfl)).2;replace HA:=V (HA.out.below hb HA.out.lt).drew;replace HC:=V (HC.out.below hb HC.out.lt).drew;replace HX:=V (HX.out.below hb HX.out.lt).drew;replace HB:=V (HB.out.trans (hb.mono HB.out.size)).drew;have hS:Br w.heap.size (w.heap.size+1) bl off w2.drew:=⟨⟨HA.out.two.1,HA.out.two.2.1⟩,⟨HC.out.two.1,HC.out.two.2.1⟩,k0,k1⟩;have HS:=V hS;clear k0 k1 M9 Mj hl hb hk;go_wp2_with fail;refine eu (Br w.heap.size (w.heap.size+1) bl off) (up 0 9 ((9,false)::up 10 4 ((14,false)::up 15 18 []))) (by kernel_rfl) (by kernel_rfl) hS ?_;clear hS;generalize w2.drew=w3 at HB HA HC HX HS⊢;iterate 9 (first | (apply sk rfl rfl;simp only [pt]) | (apply ef rfl rfl rfl;·(rintro w' ⟨⟨t0,t1⟩,⟨t2,t3⟩,t4,t5⟩;go_wp2;exact⟨rfl,rfl,rfl⟩)))
 refine eo rfl rfl ?_;go_wp2_with fail;refine(nC ⟨1,2⟩ w3).mono ?_;rintro e w4 ⟨rfl,hb⟩;have hm:decide (fm.may ⟨1,2⟩)=true:=by decide
 rw [hm];replace HA:=V (HA.out.below hb HA.out.lt);replace HC:=V (HC.out.below hb HC.out.lt);replace HX:=V (HX.out.below hb HX.out.lt);replace HB:=V (HB.out.trans (hb.mono HB.out.size));replace HS:=V (HS.out.below hb);clear hb hm;go_wp2_with fail;refine⟨HS.out,?_⟩;iterate 4 (first | (apply sk rfl rfl;simp only [pt]) | (apply ef rfl rfl rfl;·(rintro w' ⟨⟨t0,t1⟩,⟨t2,t3⟩,t4,t5⟩;go_wp2;exact⟨rfl,rfl,rfl⟩)))
 refine eo rfl rfl ?_;go_wp2_with fail;refine(nC ⟨1,3⟩ w4).mono ?_;rintro e w5 ⟨rfl,hb⟩;have hm:decide (fm.may ⟨1,3⟩)=true:=by decide
 rw [hm];replace HA:=V (HA.out.below hb HA.out.lt);replace HC:=V (HC.out.below hb HC.out.lt);replace HX:=V (HX.out.below hb HX.out.lt);replace HB:=V (HB.out.trans (hb.mono HB.out.size));replace HS:=V (HS.out.below hb);clear hb hm;go_wp2_with fail;refine⟨HS.out,?_⟩;iterate 18 (first | (apply sk rfl rfl;simp only [pt]) | (apply ef rfl rfl rfl;·(rintro w' ⟨⟨t0,t1⟩,⟨t2,t3⟩,t4,t5⟩;go_wp2;exact⟨rfl,rfl,rfl⟩)))
 refine eV ?_;refine aD ?_;go_wp2_with fail;refine(qN 106 w5).mono ?_;rintro e w6 ⟨rfl,hb⟩;have hk:sO 106=(1,106):=by decide+kernel
 rw [hk];replace HA:=V (HA.out.below hb HA.out.lt);replace HC:=V (HC.out.below hb HC.out.lt);replace HX:=V (HX.out.below hb HX.out.lt);replace HB:=V (HB.out.trans (hb.mono HB.out.size));replace HS:=V (HS.out.below hb);clear hb hk;go_wp2_with fail;refine(ja 106 109 112 w6).mono ?_;rintro e w7 ⟨rfl,hb⟩;have hk:ml 106 109 112=false:=by decide
 rw [hk];replace HA:=V (HA.out.below hb HA.out.lt).drew;replace HC:=V (HC.out.below hb HC.out.lt).drew;replace HX:=V (HX.out.below hb HX.out.lt).drew;replace HB:=V (HB.out.trans (hb.mono HB.out.size)).drew;have hS:=(HS.out.below hb).below (an _ _).drew;clear hb hk;go_wp2_with fail;refine eu (Br w.heap.size (w.heap.size+1) bl off) (up 0 5 ((5,false)::(6,false)::(7,false)::(8,true)::[])) (by kernel_rfl) (by kernel_rfl) hS ?_;replace HS:=V hS;clear hS;generalize w7.drew=w8 at HB HA HC HX HS⊢;iterate 5 (first | (apply sk rfl rfl;simp only [pt]) | (apply ef rfl rfl rfl;·(rintro w' ⟨⟨t0,t1⟩,⟨t2,t3⟩,t4,t5⟩;go_wp2;exact⟨rfl,rfl,rfl⟩)))
 refine eo rfl rfl ?_;go_wp2_with fail;refine(C7 w8).mono ?_;rintro e w9 ⟨rfl,hb⟩;replace HX:=V (HX.out.below hb HX.out.lt);replace HB:=V (HB.out.trans (hb.mono HB.out.size));replace HS:=V (HS.out.below hb);clear hb;go_wp2_with fail;refine⟨HS.out,?_⟩;refine eo rfl rfl ?_;go_wp2_with fail;refine(D3 w9).mono ?_;rintro e w10 ⟨rfl,hb⟩;replace HX:=V (HX.out.below hb HX.out.lt);replace HB:=V (HB.out.trans (hb.mono HB.out.size));replace HS:=V (HS.out.below hb);clear hb;go_wp2_with fail;refine⟨HS.out,?_⟩;refine eo rfl rfl ?_;obtain⟨x0,x1,z0,z1⟩:=HX.out.two;go_wp2_with fail;have Lt:=fN w10 (w.heap.size+1+1) (.int .i64 1) (.int .i64 5);have OQ:=HX.out.nx (.int .i64 1) (.int .i64 5);have hS:Br w.heap.size (w.heap.size+1) bl off ((w10.setCell ⟨w.heap.size+1+1,0,none⟩ (.int .i64 1)).setCell ⟨w.heap.size+1+1,1,none⟩ (.int .i64 5)):=by
  obtain⟨⟨h1,h2⟩,⟨h3,h4⟩,h5,h6⟩:=HS.out;have key:∀{a:Addr} {v:Value},w10.cell? a=some v ->a.block≠w.heap.size+1+1 ->((w10.setCell ⟨w.heap.size+1+1,0,none⟩ (.int .i64 1)).setCell ⟨w.heap.size+1+1,1,none⟩ (.int .i64 5)).cell? a=some v:=
   fun ha Nm=>(Lt.cell (aT w10 _ ha) Nm).trans ha
  exact⟨⟨key h1 (by simp;omega),key h2 (by simp;omega)⟩,⟨key h3 (by simp),key h4 (by simp)⟩,key h5 Ml,key h6 Ml⟩
 refine⟨hS,?_⟩;have HL:=V OQ.mN;have NQ:=V (HB.out.trans (Lt.below HB.out.size (fun i hi=>by omega)));clear Lt OQ x0 x1 z0 z1 hS;iterate 1 (first | (apply sk rfl rfl;simp only [pt]) | (apply ef rfl rfl rfl;·(rintro w' ⟨⟨t0,t1⟩,⟨t2,t3⟩,t4,t5⟩;go_wp2;exact⟨rfl,rfl,rfl⟩)))
 refine eV ?_;refine aD ?_;go_wp2_with fail;exact aN (fu rfl _ _ rfl HL.out) rfl ⟨rfl,NQ.out⟩
section
def rI (j:Nat):List Edge ->Bool
 | []=>true
 | e::es=>(!Region.binds .any e || decide (e.on < j))&&rI j es
def A7:Nat ->List Oper ->Bool
 | _,[]=>true
 | j,o::rest=>rI j o.after.toList&&A7 (j+1) rest
def ka (L:Array Bool):List Edge ->Prop
 | []=>True
 | e::es=>(Region.binds .any e=true ->L.getD e.on false=true)/\ka L es
def pY (P:Program) (ops:List Oper) (Q:Exit ->Act ->World ->Prop) (I:Array Bool ->Act ->World ->Prop):Nat ->List Oper ->Prop
 | _,[]=>True
 | j,o::rest=>(∀L a w,L.size=ops.length ->L.getD j false=false ->ka L o.after.toList ->I L a w ->ko ops o.guard a=true/\wpList P #[] (nK Q (fun _=>True) (I (L.setIfInBounds j true))) [bare o] a w)/\pY P ops Q I (j+1) rest
theorem sF {j:Nat}:∀{l:List Edge},rI j l=true ->∀e∈l,Region.binds .any e=true ->e.on < j
 | [],_,e,he,_=>by cases he
 | x::l,h,e,he,hb=>by
  simp only [rI,bz,Bool.or_eq_true,dt,db]at h;rcases bB.1 he with rfl | he
  ·rcases h.1 with h1 | h1
   ·rw [h1]at hb;cases hb
   ·exact h1
  ·exact sF h.2 e he hb
theorem zE:∀{l:List Oper} {k j:Nat} {o:Oper},A7 k l=true ->l[j]?=some o ->rI (k+j) o.after.toList=true
 | [],_,j,o,_,h=>by simp at h
 | x::l,k,0,o,hk,h=>by
  simp only [A7,bz]at hk;simp at h;subst h;exact hk.1
 | x::l,k,j+1,o,hk,h=>by
  simp only [A7,bz]at hk;have:=zE (j:=j) hk.2 (by simpa using h)
  rwa [show k+1+j=k+(j+1)by omega]at this
theorem tK {L:Array Bool}:∀{l:List Edge},(∀e∈l,Region.binds .any e=true ->L.getD e.on false=true) ->ka L l
 | [],_=>trivial
 | x::l,h=>⟨h x (by simp),tK (fun e he=>h e (by simp [he]))⟩
theorem qu {P:Program} {ops:List Oper} {Q:Exit ->Act ->World ->Prop} {I:Array Bool ->Act ->World ->Prop}:∀{l:List Oper} {k j:Nat} {o:Oper},pY P ops Q I k l ->l[j]?=some o ->
  ∀L a w,L.size=ops.length ->L.getD (k+j) false=false ->ka L o.after.toList ->I L a w ->ko ops o.guard a=true/\wpList P #[] (nK Q (fun _=>True) (I (L.setIfInBounds (k+j) true))) [bare o] a w
 | [],_,_,_,_,h=>by simp at h
 | x::l,k,0,o,hk,h=>by
  simp at h;subst h;exact hk.1
 | x::l,k,j+1,o,hk,h=>by
  have:=qu (j:=j) hk.2 (by simpa using h)
  rwa [show k+1+j=k+(j+1)by omega]at this
theorem xc {ops:List Oper} {L:Array Bool} (hac:A7 0 ops=true) (hL:L.size=ops.length) (h:Region.ready .any ops.toArray L=[]):∀n i,i < n ->i < ops.length ->L.getD i false=true
 | 0,i,hi,_=>by omega
 | n+1,i,hi,hil=>by
  cases hb:L.getD i false with
  | true=>rfl
  | false=>
   exfalso;have hmem:i∈Region.ready .any ops.toArray L:=by
    unfold Region.ready;rw [List.mem_filter];refine⟨by simpa using hil,?_⟩;have h1:L.getD i true=false:=by
     have hs:i < L.size:=by omega
     simpa [hs] using hb
    rw [h1];have h2:=aw hil;simp only [aI,h2,bF,cN,Bool.not_false,ct,Array.all_eq_true'];intro e he;have h3:=zE hac h2;rw [bP]at h3;cases Ox:Region.binds .any e with
    | false=>rfl
    | true=>
     have h4:=sF h3 e (by simpa using he) Ox;have h5:=xc hac hL h n e.on (by omega) (by omega);simp [h5]
   rw [h]at hmem;cases hmem
theorem tI {P:Program} {ops:List Oper} {Q:Exit ->Act ->World ->Prop} (I:Array Bool ->Act ->World ->Prop) (hac:A7 0 ops=true) (step:pY P ops Q I 0 ops) (last:∀L a w,(∀j,j < ops.length ->L.getD j false=true) ->I L a w ->Q .normal a w):
  ∀(fuel:Nat) (L:Array Bool) (a:Act) (w:World),L.size=ops.length ->((List.range ops.length).filter fun i=> !L.getD i false).length <=fuel ->I L a w ->wpAnyH P .any ops.toArray Q (fun _=>True) fuel L a w
 | 0,L,a,w,hL,hc,h=>by
  have LM:∀j,j < ops.length ->L.getD j false=true:=by
   intro j hj;cases hb:L.getD j false with
   | true=>rfl
   | false=>
    have:j∈(List.range ops.length).filter fun i=> !L.getD i false:=by
     rw [List.mem_filter];exact⟨by simpa using hj,by rw [hb];rfl⟩
    have h0:=aH (Nat.le_zero.1 hc);rw [h0]at this;cases this
  refine⟨?_,last L a w LM h⟩;unfold Region.ready;rw [List.filter_eq_nil_iff];intro i hi;have hi2:i < ops.length:=by simpa using hi
  have h1:=LM i hi2;have hs:i < L.size:=by omega
  have h2:L.getD i true=true:=by simpa [hs] using h1
  rw [h2];simp
 | fuel+1,L,a,w,hL,hc,h=>by
  refine⟨fun hr=>last L a w (fun j hj=>xc hac hL hr (j+1) j (by omega) hj) h,fun j hj=>?_⟩;obtain⟨P6,o,ho,LM⟩:=dL.1 hj;have LL:ops[j]?=some o:=by simpa using ho
  have hjl:j < ops.length:=(aM.1 LL).1;have LI:=qu step LL L a w hL (by
   have hs:j < L.size:=by omega
   simpa [hs] using P6) (tK fun e he hb=>by
   have:=LM e (by simpa using he) hb;simpa using this) h
  rw [bP]at LI;refine kM (S:=fun _=>True) (K:=I (L.setIfInBounds j true)) trivial (fun a w _ hk=>?_) ⟨o,by simpa [nO] using LL, .inl ⟨LI.1,LI.2⟩⟩;refine tI I hac step last fuel _ a w (by simpa using hL) ?_ hk;have Lw:((List.range ops.length).filter fun i=> !(L.setIfInBounds j true).getD i false).length < ((List.range ops.length).filter fun i=> !L.getD i false).length:=by
   have hsub:((List.range ops.length).filter fun i=> !(L.setIfInBounds j true).getD i false)=(((List.range ops.length).filter fun i=> !L.getD i false).filter fun i=>decide (i≠j)):=by
    rw [List.filter_filter];apply List.filter_congr;intro i hi;have hi2:i < L.size:=by rw [hL];simpa using hi
    by_cases q:i=j
    ·subst q
     simp [hi2]
    ·have q2:j≠i:=fun e=>q e.symm
     simp [hi2,q,q2]
   rw [hsub];refine List.length_filter_lt_length_iff_exists.2 ⟨j,?_,by simp⟩;rw [List.mem_filter];refine⟨by simpa using hjl,?_⟩;have hs:j < L.size:=by omega
   simp [hs]at P6⊢;exact P6
  omega
theorem ui {P:Program} {ops:List Oper} {Q:Exit ->Act ->World ->Prop} {id:Nat} {a:Act} {w:World} (I:Array Bool ->Act ->World ->Prop) (hm:P.follows .mixedOrders=true) (hac:A7 0 ops=true)
  (h0:I (Array.replicate ops.length false) a w.drew) (step:pY P ops (NoPanic Q) I 0 ops) (last:∀L a w,(∀j,j < ops.length ->L.getD j false=true) ->I L a w ->NoPanic Q .normal a w):(Code.region id ops.toArray true).wp P Q a w:=by
 refine dH (wp_region_held (S:=fun _=>True) hm ?_);refine tI I hac step last _ _ a _ (by simp) ?_ (by simpa using h0);refine aW (List.length_filter_le _ _) (by simp)
theorem jj {n k:Nat} (h:(Array.replicate n false).getD k false=true):False:=by
 by_cases hk:k < n
 ·simp [hk]at h
 ·simp [hk]at h
def nv (i j B:Nat) (RC xs:Array Value) (t:TypeId) (L:Array Bool) (s:Value) (w:World):Prop:=
 (L.getD j false=true ->L.getD i false=true)/\(L.getD i false=true ->∃T,s= .pointer (some ⟨T,0,none⟩)/\B <=T/\eP w T (if L.getD j false=true then xs else RC) t)
section
variable {i j k B:Nat} {RC xs:Array Value} {t:TypeId} {L:Array Bool} {s:Value} {w w':World}
theorem jY (h:k≠i):(L.setIfInBounds i true).getD k false=L.getD k false:=by
 have h2:i≠k:=fun e=>h e.symm;by_cases hk:k < L.size
 ·simp [hk,h2]
 ·simp [hk]
theorem nv.start (n:Nat):nv i j B RC xs t (Array.replicate n false) s w:=⟨fun h=>(jj h).elim,fun h=>(jj h).elim⟩
theorem nv.below (h:nv i j B RC xs t L s w) (hb:Below w.heap.size w w'):nv i j B RC xs t L s w':=by
 refine⟨h.1,fun g=>?_⟩;obtain⟨T,h1,h2,h3⟩:=h.2 g;exact⟨T,h1,h2,h3.below hb h3.lt⟩
theorem nv.other (h:nv i j B RC xs t L s w) (h1:i≠k) (h2:j≠k) (hb:Below w.heap.size w w'):nv i j B RC xs t (L.setIfInBounds k true) s w':=by
 have:=h.below hb;unfold nv;rw [jY h1,jY h2];exact this
theorem nv.alloc (h:nv i j B RC xs t L s w) (hi:L.getD i false=false) (hij:j≠i) (hB:B <=w.heap.size):nv i j B RC xs t (L.setIfInBounds i true) (.pointer (some ⟨w.heap.size,0,none⟩)) (w.alloc (.cells RC t)):=by
 have hj:L.getD j false=false:=by
  cases hb:L.getD j false with
  | false=>rfl
  | true=>rw [h.1 hb]at hi;cases hi
 unfold nv;rw [jY hij,hj];refine⟨fun g=>(by cases g),fun _=>⟨_,rfl,hB,eP.new w RC t⟩⟩
theorem nv.open (h:nv i j B RC xs t L s w) (hi:L.getD i false=true) (hj:L.getD j false=false):∃T,s= .pointer (some ⟨T,0,none⟩)/\B <=T/\eP w T RC t:=by
 obtain⟨T,h1,h2,h3⟩:=h.2 hi;rw [hj]at h3;exact⟨T,h1,h2,h3⟩
theorem nv.store {T n:Nat} (hi:L.getD i false=true) (hij:i≠j) (hL:L.size=n) (hjn:j < n) (hB:B <=T) (hk:eP w' T xs t):nv i j B RC xs t (L.setIfInBounds j true) (.pointer (some ⟨T,0,none⟩)) w':=by
 have hj:(L.setIfInBounds j true).getD j false=true:=by simp [hL,hjn]
 unfold nv;rw [jY hij,hj,hi];exact⟨fun _=>rfl,fun _=>⟨T,rfl,hB,hk⟩⟩
theorem nv.all (h:nv i j B RC xs t L s w) (hi:L.getD i false=true) (hj:L.getD j false=true):∃T,s= .pointer (some ⟨T,0,none⟩)/\B <=T/\eP w T xs t:=by
 obtain⟨T,h1,h2,h3⟩:=h.2 hi;rw [hj]at h3;exact⟨T,h1,h2,h3⟩
end
theorem eB {L:Array Bool} {j k:Nat} {p:Prop} (h:L.getD k false=true ->p) (hk:k≠j):(L.setIfInBounds j true).getD k false=true ->p:=fun g=>h (by rwa [jY hk]at g)
end
end Go.Proofs.YthbjdhjppbcneaaGreatDoor
