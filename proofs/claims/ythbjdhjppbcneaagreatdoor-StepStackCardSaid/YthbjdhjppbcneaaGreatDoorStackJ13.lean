import Derived.Test.YthbjdhjppbcneaaGreatDoorStackJ12
namespace Go.Proofs.YthbjdhjppbcneaaGreatDoor
set_option maxRecDepth 100000
set_option maxHeartbeats 20000000
open Go.RowKit Tryz
open Lib renaming hid->V
set_option linter.all false
def gR:ze ->List iO ->Option ze
 | s,[]=>some s
 | s,x::l=>(iK s x.off x.funcs).bind fun s'=>gR s' l
theorem pP:∀(s:ze) (l:List iO) (x:iO),gR s (l++[x])=(gR s l).bind fun s'=>iK s' x.off x.funcs
 | s,[],x=>by simp [gR]
 | s,y::l,x=>by
  simp only [bL,gR];cases iK s y.off y.funcs with
  | none=>rfl
  | some s'=>simp [pP s' l x]
theorem pL:∀{s:ze} {l:List iO} {i:Nat},gR s (l.take i)=none ->gR s l=none
 | s,[],i,h=>by simpa using h
 | s,x::l,0,h=>by simp [gR]at h
 | s,x::l,i+1,h=>by
  simp only [List.take_succ_cons,gR]at h⊢;cases hx:iK s x.off x.funcs with
  | none=>rfl
  | some s'=>
   rw [hx]at h;exact pL (s:=s') (l:=l) (i:=i) h
def Df (m:ew) (w:World) (e:Ending) (w':World):Prop:=
 Below w.heap.size w w'/\((iz m≠-1/\e= .returned (.tuple #[.pointer none, .int .i64 6]))\/(iz m= -1/\gR (gK m) m.elems=none/\e= .returned (.tuple #[.pointer none, .int .i64 3]))\/
  ∃X FX FM FSs iv sp,iz m= -1/\gR (gK m) m.elems=some sp/\e= .returned (.tuple #[.pointer (some ⟨X,0,none⟩), .int .i64 0])/\jk w' FX X iv m/\wT w' FM iv.vm (jg m.mem)/\Kd w' FSs iv.vs sp/\
   (∀g,FX g=true\/FM g=true\/FSs g=true ->w.heap.size <=g/\g < w'.heap.size)/\∀g,(FX g=true ->FM g=false/\FSs g=false)/\(FM g=true ->FSs g=false))
structure rX (w0:World) (m:ew) (w:World) (X:Nat) (u:eB) (vm:Value) (Xs a s3 s4 s5:Nat) (sp:ze):Prop where
 below:Below w0.heap.size w0 w
 ord:w0.heap.size <=a/\a <=s3/\s3 <=s4/\s4 <=s5/\X=s5/\s5 < w.heap.size
 mod:ej (mask (fun k=> !rm a s3 k) w) u m
 kk:eE w X (sR ⟨u,vm, .pointer (some ⟨Xs,0,none⟩), .slice none 0 0,[]⟩ m) 93
 mem:wT w (rm s3 s4) vm (jg m.mem)
 space:nI w s4 Xs sp
 xs:s4 <=Xs/\Xs < s5
theorem rX.keeps {w0:World} {m:ew} {w w':World} {X:Nat} {u:eB} {vm:Value} {Xs a s3 s4 s5:Nat} {sp sp':ze} {P:Nat ->Prop} (h:rX w0 m w X u vm Xs a s3 s4 s5 sp) (hk:dS P w w') (hP:∀g,P g ->s4 <=g/\¬ g=X) (hs:nI w' s4 Xs sp'):rX w0 m w' X u vm Xs a s3 s4 s5 sp':=by
 obtain⟨o1,o2,o3,o4,o5,o6⟩:=h.ord;refine⟨h.below.trans (hk.below h.below.size (fun i hi=>by have:=(hP i hi).1;omega)),⟨o1,o2,o3,o4,o5,bK o6 hk.size⟩,h.mod.ext (iG hk (fun k _ hp=>?_) (fun k _ hp=>hp)),h.kk.keeps hk (fun hx=>(hP X hx).2 rfl),h.mem.keeps hk (fun g hg=>?_),hs,h.xs⟩
 ·have:=(hP k hp).1
  simp [rm];omega
 ·have:=(hP g hg).1
  simp [rm];omega
theorem G7 {w:World} {B:Nat} {p:Value} {e:Option zX} (h:Jt w B p e):wT w (rm B w.heap.size) p e:=by
 rcases h with h | ⟨x,X,h1,h2,⟨v,v',h3,h4,h5⟩,h6⟩
 ·exact .inl h
 ·exact .inr ⟨x,X,v,v',h1,h2,h3,h4.lower (bG _),h5.lower (bG _),kQ.2 ⟨h6,h3.lt⟩,fun g hg=>kQ.2 (eo h4 hg),fun g hg=>kQ.2 (eo h5 hg)⟩
theorem nI.keeps {P:Nat ->Prop} {w w':World} {B X:Nat} {e:ze} (h:nI w B X e) (hX:B <=X) (hk:dS P w w') (hP:∀g,P g ->g < B\/w.heap.size <=g):nI w' B X e:=by
 obtain⟨v,v',h1,h2,h3⟩:=h;have:=h1.lt;exact⟨v,v',h1.keeps hk (fun hp=>by have:=hP X hp;omega),h2.keeps hk (fun g hg hp=>by have:=eo h2 hg;have:=hP g hp;omega),h3.keeps hk (fun g hg hp=>by have:=eo h3 hg;have:=hP g hp;omega)⟩
def Ck (FM:Nat ->Bool) (p:Value) (e:Option zX) (w:World) (en:Ending) (w':World):Prop:=en= .returned (.tuple #[])/\wT w' FM p (e.map fun x=>{x with BP:=[]})/\dS (fun i=>FM i=true) w w'
theorem AT (w:World) (FM:Nat ->Bool) (p:Value) (e:Option zX) (h:wT w FM p e):Calls prog 33 #[p] w (Ck FM p e w):=by
 rcases h with⟨rfl,rfl⟩ | ⟨x,X,v,v',rfl,rfl,hx,hb,hd,h1,h2,h3⟩
 ·go_enter func33,ntmps33
  go_wp2_with fail
  go_end0
  exact⟨rfl, .inl ⟨rfl,rfl⟩,dS.refl _ _⟩
 ·have x2:w.cell? ⟨X,2,none⟩=some v':=hx.cell 2
  have z2:=hx.free 2;have HX:=V hx;have HB:=V hb;have H1:=V h1;have H2:=V h2;clear hb hd hx h1 h2 h3;go_enter func33,ntmps33;go_wp2_with fail
  go_end0
  have Km:=ep w X 2 (.slice none 0 0);exact⟨rfl, .inr ⟨_,X,_,_,rfl,rfl,HX.out.set 2 (.slice none 0 0),HB.out.keeps Km (dU.gw HB.out HX.out (by decide)),dR.nil _ _,H1.out,H2.out,fun g hg=>by simp [ey,Value.ownBlock]at hg⟩,Km.mono (fun i hi=>by subst hi;exact H1.out)⟩
theorem xi (l:fL):(jg l).map (fun x=>{x with BP:=[]})=jg l:=by
 unfold jg;split <;>rfl
theorem nI.Fx {w:World} {B X:Nat} {xs:Array Value} {t:TypeId} (hx:eE w X xs t) (ht:t≠3):¬ Fm w B X:=fun⟨_,_,hy⟩=>ht (hx.uniq hy)
theorem rX.clean {w0:World} {m:ew} {w w':World} {X:Nat} {u:eB} {vm:Value} {Xs a s3 s4 s5:Nat} {sp:ze} (h:rX w0 m w X u vm Xs a s3 s4 s5 sp) (hk:dS (fun i=>rm s3 s4 i=true) w w') (hm:wT w' (rm s3 s4) vm (jg m.mem)):rX w0 m w' X u vm Xs a s3 s4 s5 sp:=by
 obtain⟨o1,o2,o3,o4,o5,o6⟩:=h.ord;refine⟨h.below.trans (hk.below h.below.size (fun i hi=>by have:=kQ.1 hi;omega)),⟨o1,o2,o3,o4,o5,bK o6 hk.size⟩,h.mod.ext (iG hk (fun k _ hp=>?_) (fun k _ hp=>hp)),h.kk.keeps hk (fun hx=>by have:=kQ.1 hx;omega),hm,h.space.keeps h.xs.1 hk (fun g hg=> .inl (kQ.1 hg).2),h.xs⟩;have:=kQ.1 hp;simp [rm];omega
theorem vn {l:List eK} {i:Nat} {x:eK} {st Nw:List jU × List Nat} (h:gb l i x st=some Nw) (hp:∀b∈st.1,0 <=b.pos/\b.pos <=i):∀b∈Nw.1,0 <=b.pos/\b.pos <=i:=by
 have Og:∀(k:Nat) (b b':jU),st.1[k]?=some b ->b'.pos=b.pos ->∀y∈st.1.set k b',0 <=y.pos/\y.pos <=i:=by
  intro k b b' hb he y hy;rcases dH hy with h1 | h1
  ·exact hp y h1
  ·rw [h1,he]
   exact hp b (aO hb)
 unfold gb at h;split at h
 ·split at h
  ·cases h
  ·injection h with h
   subst h;intro b hb;rcases bA.1 hb with h1 | h1
   ·exact hp b h1
   ·rw [aV.1 h1]
    exact⟨by simp,by simp⟩
 ·split at h
  ·injection h with h
   subst h;exact hp
  ·split at h
   ·cases h
   ·rename_i k hk
    split at h
    ·cases h
    ·rename_i b hb
     split at h
     ·injection h with h
      subst h;exact Og k b _ hb rfl
     ·split at h
      ·cases h
      ·split at h
       ·cases h
       ·injection h with h
        subst h;exact Og k b _ hb rfl
theorem sa (l:List eK):∀(rest:List eK) (i:Nat) (st Nw:List jU × List Nat),gq l rest i st=some Nw ->(∀b∈st.1,0 <=b.pos/\b.pos <=i) ->∀b∈Nw.1,0 <=b.pos/\b.pos <=i+rest.length
 | [],i,st,Nw,h,hp=>by
  simp only [gq,aX]at h;subst h;simpa using hp
 | x::rest,i,st,Nw,h,hp=>by
  simp only [gq]at h;cases hs:gb l i x st with
  | none=>rw [hs]at h;simp at h
  | some Qw=>
   rw [hs,aw]at h;have h1:=vn hs hp;intro b hb;have:=sa l rest (i+1) Qw Nw h (fun b hb=>by have:=h1 b hb;omega) b hb;rw [aI];omega
theorem zG {l:List eK} {bs:List jU} (h:fu l=some bs):∀b∈bs,0 <=b.pos/\b.pos <=300:=by
 unfold fu at h;split at h
 ·cases h
 ·rename_i hl
  cases hg:gq l l 0 ([],[])with
  | none=>rw [hg]at h;simp at h
  | some st=>
   rw [hg,aw]at h;split at h
   ·injection h with h
    subst h;intro b hb;have:=sa l l 0 _ _ hg (by simp) b hb;omega
   ·cases h
theorem fV.new (w:World):fV (w.alloc (.map #[] 0)) w.heap.size []:=⟨0,ag _,World.ownsMap_made _ _ _ _⟩
theorem zy {w w':World} {j:Nat} (h:w.grownBy w' (some j)):dS (fun g=>g=j) w w':=⟨h.os,h.tape,h.output,h.size,fun k hk hn=>h.block k hk (fun e=>hn (by injection e))⟩
theorem Ch:(prog.info? 72).map (fun i=>(i.zero,i.size,i.bytes))=some (some (.map none),1,8):=by kernel_rfl
structure vI (hi:Nat) (w:World) (X:Nat) (u:eB) (vm vs:Value) (m:ew) (vj:Value) (js:List Nat):Prop where
 kk:eE w X (sR ⟨u,vm,vs,vj,js⟩ m) 93
 row:dR 72 1 zO w hi vj js
 maps:∀(i j:Nat) (c:gN),js[i]?=some j ->m.eh[i]?=some c ->fV w j (oB c)/\hi <=j
theorem fV.gw {w:World} {j X:Nat} {l:List jU} {xs:Array Value} {t:TypeId} (h:fV w j l) (hx:eE w X xs t):j≠X:=by
 obtain⟨_,_,es,clock,hb,_⟩:=h;intro e;subst e;have:=hx.symm.trans hb;injection this with this;cases this
theorem vI.more {hi:Nat} {w w1 w2 w3:World} {X:Nat} {u:eB} {vm vs:Value} {m:ew} {vj:Value} {js:List Nat} {j:Nat} {c:gN} {a2:Option Addr} {n2 c2:Nat} (h:vI hi w X u vm vs m vj js) (hb:Below w.heap.size w w1) (hj1:w.heap.size <=j) (hk:dS (fun g=>g=j) w1 w2) (hc:m.eh[js.length]?=some c) (hjm:fV w2 j (oB c)) (hhi:hi <=w.heap.size)
  (ho:dR 72 1 zO w3 hi (.slice a2 n2 c2) (js++[j])) (KS:dS (ey vj) w2 w3):vI hi (w3.setCell ⟨X,16,none⟩ (.slice a2 n2 c2)) X u vm vs m (.slice a2 n2 c2) (js++[j]):=by
 have PR:=h.kk.lt;have hXj:¬ X=j:=by omega
 have NP:=(h.kk.below hb PR).keeps hk hXj;have PA:dR 72 1 zO w2 hi vj js:=(h.row.below hb).keeps hk (fun g hg e=>by have:=(eo h.row hg).2;omega);have hx3:=NP.keeps KS (fun hg=>dR.gw PA NP (by decide) X hg rfl);have Km:=ep w3 X 16 (.slice a2 n2 c2);have key:∀(j':Nat) (l:List jU),fV w2 j' l ->fV (w3.setCell ⟨X,16,none⟩ (.slice a2 n2 c2)) j' l:=fun j' l g=>by
  have g3:=g.keeps KS (fun hg=>by
   obtain⟨cur,hcur⟩:=PA.has hg;exact g.gw hcur rfl)
  exact g3.keeps Km (g3.gw hx3)
 refine⟨?_,ho.keeps Km (dR.gw ho hx3 (by decide)),fun i j' c' hj' LY=>?_⟩
 ·have:=hx3.set 16 (.slice a2 n2 c2)
  simpa [sR] using this
 ·by_cases q:i < js.length
  ·rw [bD q]at hj'
   obtain⟨g1,g2⟩:=h.maps i j' c' hj' LY;exact⟨key j' _ ((g1.below hb).keeps hk (by have:=g1.lt;omega)),g2⟩
  ·have hi2:=(aL.1 hj').1
   rw [ah,aB]at hi2;obtain rfl:i=js.length:=by omega
   rw [bp (ag _),Nat.sub_self]at hj';simp only [aF,aX]at hj';subst hj';rw [hc]at LY;injection LY with LY;subst LY;exact⟨key j _ hjm,by omega⟩
theorem lM (m:ew) (u:eB) (w:World) (hm:ej w u m) (hs:m.words) (he:∀c∈m.eh,∀x∈c.body,x.mg) (hn:m.imports.length+m.funcs.length <=1000000) (hd:m.eA=[]):Calls prog 9 #[.agg (u.cells m)] w (Df m w):=by
 have HI:=V hm;have HWD:=V hs;have HE:=V he;have HND:=V hd;obtain⟨a0,c0,a1,c1,a2,c2,a3,c3,a4,c4,a5,c5,a6,c6,a7,c7,rfl⟩:=ej.open hm;simp only [eB.cells];clear hm hs he hd;have HX:=V (eE.new w #[.slice a0 m.types.length c0, .slice a1 m.imports.length c1, .slice a2 m.funcs.length c2, .bool m.table.has, .int .i64 m.table.min, .int .i64 m.table.max, .bool m.mem.has, .int .i64 m.mem.min, .int .i64 m.mem.max, .slice a3 m.globals.length c3, .slice a4 m.dY.length c4, .slice a5 m.elems.length c5, .slice a6 m.eh.length c6, .slice a7 m.eA.length c7] 62);have HS:=V ((an w.heap.size w).alloc (ag _) (.cells #[.slice a0 m.types.length c0, .slice a1 m.imports.length c1, .slice a2 m.funcs.length c2, .bool m.table.has, .int .i64 m.table.min, .int .i64 m.table.max, .bool m.mem.has, .int .i64 m.mem.min, .int .i64 m.mem.max, .slice a3 m.globals.length c3, .slice a4 m.dY.length c4, .slice a5 m.elems.length c5, .slice a6 m.eh.length c6, .slice a7 m.eA.length c7] 62));go_enter func9,ntmps9;go_wp2_with fail;refine(px m ⟨.slice a0 m.types.length c0, .slice a1 m.imports.length c1, .slice a2 m.funcs.length c2, .slice a3 m.globals.length c3, .slice a4 m.dY.length c4, .slice a5 m.elems.length c5, .slice a6 m.eh.length c6, .slice a7 m.eA.length c7⟩ _ (ej.below HI.out HS.out) HWD.out hn HE.out).mono ?_;rintro e w1 ⟨rfl,hb⟩;replace HX:=V (HX.out.below hb HX.out.lt);replace HS:=V (HS.out.trans (hb.mono HS.out.size));clear hb;by_cases hv:iz m= -1;rotate_left
 ·have f1:decide (iz m= -1)=false:=aA hv
  have HV:=V hv;rw [f1];clear hv;go_wp2_with fail
  go_ret2
  exact⟨HS.out, .inl ⟨HV.out,rfl⟩⟩
 have LX:m.may:=by
  by_cases q:m.may
  ·exact q
  ·exfalso
   rw [iz,aJ (aA q)]at hv;exact absurd hv (by decide)
 have Mp:=V LX;have HV:=V hv;have htb:m.table.has=true ->0 <=m.table.min/\m.table.min <=1000:=fun h=>by
  have h1:=LX.1.2.2.1;unfold fL.may at h1;simp only [h]at h1;simp at h1;omega
 have hgl:m.globals.length <=1000:=by
  have h1:=LX.1.2.1.2.1.1;omega
 have hel16:m.elems.length <=16:=LX.1.2.1.2.2.2.1.1;have hco16:m.eh.length <=16:=LX.1.1.2.1;have OH:=V htb;rw [hv];clear hv LX htb;have ht:=HX.out.drew.mod;go_wp2_with fail;refine ed (fun w'=>w'.cell? ⟨w.heap.size,0,none⟩=some (.slice a0 m.types.length c0)/\w'.cell? ⟨w.heap.size,1,none⟩=some (.slice a1 m.imports.length c1)/\w'.cell? ⟨w.heap.size,2,none⟩=some (.slice a2 m.funcs.length c2)/\w'.cell? ⟨w.heap.size,3,none⟩=some (.bool m.table.has)/\w'.cell? ⟨w.heap.size,4,none⟩=some (.int .i64 m.table.min)/\w'.cell? ⟨w.heap.size,5,none⟩=some (.int .i64 m.table.max)/\w'.cell? ⟨w.heap.size,6,none⟩=some (.bool m.mem.has)/\w'.cell? ⟨w.heap.size,7,none⟩=some (.int .i64 m.mem.min)/\w'.cell? ⟨w.heap.size,8,none⟩=some (.int .i64 m.mem.max)/\w'.cell? ⟨w.heap.size,9,none⟩=some (.slice a3 m.globals.length c3)/\w'.cell? ⟨w.heap.size,10,none⟩=some (.slice a4 m.dY.length c4)/\w'.cell? ⟨w.heap.size,11,none⟩=some (.slice a5 m.elems.length c5)/\w'.cell? ⟨w.heap.size,12,none⟩=some (.slice a6 m.eh.length c6)/\w'.cell? ⟨w.heap.size,13,none⟩=some (.slice a7 m.eA.length c7)) [(0,true),(2,true),(3,true),(5,true),(1,false),(4,false),(6,false),(7,true),(8,false),(9,true)] (by kernel_rfl) (by kernel_rfl) ht ?_;clear ht;replace HX:=V HX.out.drew;replace HS:=V HS.out.drew;generalize w1.drew=w2 at HX HS⊢;iterate 4 (first | (apply sk rfl rfl;simp only [pt]) | (apply dT rfl rfl rfl;·(rintro w' ⟨t0,t1,t2,t3,t4,t5,t6,t7,t8,t9,t10,t11,t12,t13⟩;go_wp2;exact⟨rfl,rfl,rfl⟩)))
 refine dZ rfl rfl ?_;go_wp2_with fail;refine(Av m ⟨.slice a0 m.types.length c0, .slice a1 m.imports.length c1, .slice a2 m.funcs.length c2, .slice a3 m.globals.length c3, .slice a4 m.dY.length c4, .slice a5 m.elems.length c5, .slice a6 m.eh.length c6, .slice a7 m.eA.length c7⟩ w2 (ej.below HI.out HS.out) HWD.out Mp.out).mono ?_;rintro e w3 ⟨u',rfl,hu,hb⟩;have s2:=HX.out.lt;replace HX:=V (HX.out.below hb HX.out.lt);replace HS:=V (HS.out.trans (hb.mono HS.out.size));have s23:=hb.size;obtain⟨b0,k0,b1,k1,b2,k2,b3,k3,b4,k4,b5,k5,b6,k6,b7,k7,rfl⟩:=ej.open hu;simp only [eB.cells];have HU:=V hu;clear hu hb;go_wp2_with fail;refine⟨HX.out.mod,?_⟩;refine dZ rfl rfl ?_;go_wp2_with fail;refine(Aq m.mem w3).mono ?_;rintro e w4 ⟨hb,hme⟩;obtain⟨vm,rfl,hp⟩:∃vm,e= .returned vm/\Jt w4 w3.heap.size vm (jg m.mem):=by
  rcases hme with⟨h1,rfl⟩ | ⟨x,X,h1,rfl,h2,h3⟩
  ·exact⟨_,rfl, .inl ⟨h1,rfl⟩⟩
  ·exact⟨_,rfl, .inr ⟨x,X,h1,rfl,h2,h3⟩⟩
 obtain⟨pm,hpm⟩:∃pm,vm= .pointer pm:=by
  rcases hp with⟨-,h⟩ | ⟨_,X,-,h,-⟩
  ·exact⟨_,h⟩
  ·exact⟨_,h⟩
 subst hpm;have s34:=hb.size;replace HX:=V (HX.out.below hb HX.out.lt);replace HS:=V (HS.out.trans (hb.mono HS.out.size));have HMP:=V hp;have HB34:=V hb;clear hb hme hp;go_wp2_with fail;refine⟨HX.out.mod,?_⟩;refine dZ rfl rfl ?_;go_wp2_with fail;refine(xy m ⟨.slice a0 m.types.length c0, .slice a1 m.imports.length c1, .slice a2 m.funcs.length c2, .slice a3 m.globals.length c3, .slice a4 m.dY.length c4, .slice a5 m.elems.length c5, .slice a6 m.eh.length c6, .slice a7 m.eA.length c7⟩ w4 (ej.below HI.out HS.out) OH.out hgl).mono ?_;rintro e w5 ⟨Xs,rfl,Qd,hXs,hb⟩;have s45:=hb.size;replace HX:=V (HX.out.below hb HX.out.lt);replace HS:=V (HS.out.trans (hb.mono HS.out.size));have Qe:=V Qd;have HB45:=V hb;have PR:Xs < w5.heap.size:=by obtain⟨_,_,h,_⟩:=Qd;exact h.lt
 clear hb Qd;go_wp2_with fail;refine⟨HX.out.mod,?_⟩;iterate 1 (first | (apply sk rfl rfl;simp only [pt]) | (apply dT rfl rfl rfl;·(rintro w' ⟨t0,t1,t2,t3,t4,t5,t6,t7,t8,t9,t10,t11,t12,t13⟩;go_wp2;exact⟨rfl,rfl,rfl⟩)))
 refine dZ rfl rfl ?_;have hb:=(an w5.heap.size w5).alloc (ag _) (.cells #[.slice b0 m.types.length k0, .slice b1 m.imports.length k1, .slice b2 m.funcs.length k2, .bool m.table.has, .int .i64 m.table.min, .int .i64 m.table.max, .bool m.mem.has, .int .i64 m.mem.min, .int .i64 m.mem.max, .slice b3 m.globals.length k3, .slice b4 m.dY.length k4, .slice b5 m.elems.length k5, .slice b6 m.eh.length k6, .slice b7 m.eA.length k7, .pointer pm, .pointer (some ⟨Xs,0,none⟩), .slice none 0 0] 93);have hxx:=eE.new w5 #[.slice b0 m.types.length k0, .slice b1 m.imports.length k1, .slice b2 m.funcs.length k2, .bool m.table.has, .int .i64 m.table.min, .int .i64 m.table.max, .bool m.mem.has, .int .i64 m.mem.min, .int .i64 m.mem.max, .slice b3 m.globals.length k3, .slice b4 m.dY.length k4, .slice b5 m.elems.length k5, .slice b6 m.eh.length k6, .slice b7 m.eA.length k7, .pointer pm, .pointer (some ⟨Xs,0,none⟩), .slice none 0 0] 93;have HN:=V (show rX w m _ w5.heap.size ⟨.slice b0 m.types.length k0, .slice b1 m.imports.length k1, .slice b2 m.funcs.length k2, .slice b3 m.globals.length k3, .slice b4 m.dY.length k4, .slice b5 m.elems.length k5, .slice b6 m.eh.length k6, .slice b7 m.eA.length k7⟩ (.pointer pm) Xs w2.heap.size w3.heap.size w4.heap.size w5.heap.size (gK m)from
  ⟨HS.out.trans (hb.mono HS.out.size),⟨Nat.le_of_lt s2,s23,s34,s45,rfl,hxx.lt⟩,
   HU.out.ext (iG ((dS.dV (S:=fun _=>False) HB34.out).trans ((dS.dV (S:=fun _=>False) HB45.out).trans (dS.dV (S:=fun _=>False) hb) (fun _ h=>h.elim)) (fun _ h=>h.elim)) (fun _ _ h=>h.elim) (fun i hi h=>by simp [rm,kD]at h⊢;omega)),
   hxx,(G7 HMP.out).keeps (P:=fun _=>False) ((dS.dV HB45.out).trans (dS.dV (S:=fun _=>False) hb) (fun _ h=>h.elim)) (fun _ h=>h.elim),nI.keeps (P:=fun _=>False) Qe.out hXs (dS.dV hb) (fun _ h=>h.elim),hXs,PR⟩)
 replace HX:=V (HX.out.below hb HX.out.lt);clear hb hxx HMP Qe HB34 HB45 HU HS;go_wp2_with fail;generalize w5.alloc (.cells #[.slice b0 m.types.length k0, .slice b1 m.imports.length k1, .slice b2 m.funcs.length k2, .bool m.table.has, .int .i64 m.table.min, .int .i64 m.table.max, .bool m.mem.has, .int .i64 m.mem.min, .int .i64 m.mem.max, .slice b3 m.globals.length k3, .slice b4 m.dY.length k4, .slice b5 m.elems.length k5, .slice b6 m.eh.length k6, .slice b7 m.eA.length k7, .pointer pm, .pointer (some ⟨Xs,0,none⟩), .slice none 0 0] 93)=w6 at HX HN⊢;refine⟨HX.out.mod,?_⟩;iterate 1 (first | (apply sk rfl rfl;simp only [pt]) | (apply dT rfl rfl rfl;·(rintro w' ⟨t0,t1,t2,t3,t4,t5,t6,t7,t8,t9,t10,t11,t12,t13⟩;go_wp2;exact⟨rfl,rfl,rfl⟩)))
 refine eH ?_;refine aD ?_;clear HX s2 s23 s34 s45 hXs PR;generalize w2.heap.size=a at HN;generalize w3.heap.size=s3 at HN;generalize w4.heap.size=s4 at HN;generalize w5.heap.size=X at HN⊢;have x11:w6.cell? ⟨X,11,none⟩=some (.slice b5 m.elems.length k5):=HN.out.kk.cell 11;go_wp2_with fail;clear x11;refine ez (fun a' w'=>∃(i:Nat) (sp:ze),a'=fr (gs a' 0 6 (.pointer (some ⟨X,0,none⟩)::gs a' 7 33 (.slice b5 m.elems.length k5:: .int .i64 m.elems.length:: .int .i64 i::gs a' 43 108 [])))/\i <=m.elems.length/\gR (gK m) (m.elems.take i)=some sp/\rX w m w' X ⟨.slice b0 m.types.length k0, .slice b1 m.imports.length k1, .slice b2 m.funcs.length k2, .slice b3 m.globals.length k3, .slice b4 m.dY.length k4, .slice b5 m.elems.length k5, .slice b6 m.eh.length k6, .slice b7 m.eA.length k7⟩ (.pointer pm) Xs a s3 s4 X sp) (fun a' _=>(m.elems.length - (intOf (a'.tmps.getD 42 undef)).toNat)) ?_ ?_
 ·exact⟨0,gK m,rfl,bG _,rfl,HN.out⟩
 ·skip
  rintro R a' w1 ⟨i,sp,Kk,hJ⟩ HR;dsimp only [fr,gs]at Kk;generalize slot a'=f at Kk;subst Kk;obtain⟨hi,hel,hnw⟩:=hJ;have HEL:=V hel;have HNW:=V hnw;clear hel hnw HN;by_cases q:i < m.elems.length
  ·obtain⟨e,he⟩:∃e,m.elems[i]?=some e:=⟨_,aq q⟩
   obtain⟨be,offe,cape,ue,Ls,-,-,hbel,KH,K8⟩:=ea.at HNW.out.mod.2.2.2.2.2.1 he;injection Ls with e1 e2 e3;subst e1 e3;obtain⟨af,cf,hfe,-,hcfm⟩:=K8.1.sl;have y0:w1.cell? ⟨be,offe+i*2,none⟩=some (.int .i64 e.off):=by
    have:=(fX (KH 0 _ rfl)).2
    rwa [aK]at this
   have y1:w1.cell? ⟨be,offe+i*2+1,none⟩=some (.slice af e.funcs.length cf):=by
    rw [<- hfe];exact(fX (KH 1 _ rfl)).2
   have HEE:=V he;have LI:=(an w1.heap.size w1).alloc (ag _) (.cells #[.int .i64 e.off, .slice af e.funcs.length cf] 95);have Lh:=V LI;have MG:=V (eE.new w1 #[.int .i64 e.off, .slice af e.funcs.length cf] 95).drew;have HF:=V (show ee 1 eZ w1 (.slice af e.funcs.length cf) e.funcs by rw [<- hfe];exact K8.1.fP);have Kv:=V ((HNW.out.kk.alloc (.cells #[.int .i64 e.off, .slice af e.funcs.length cf] 95)).drew);have NK:World.cell? _ ⟨X,15,none⟩=some (.pointer (some ⟨Xs,0,none⟩)):=Kv.out.cell 15;have v0:World.cell? _ ⟨w1.heap.size,0,none⟩=some (.int .i64 e.off):=MG.out.cell 0;have v1:World.cell? _ ⟨w1.heap.size,1,none⟩=some (.slice af e.funcs.length cf):=MG.out.cell 1;clear he KH K8 hfe e2 hbel LI;go_wp2_with fail;refine ed (fun w'=>w'.cell? ⟨X,15,none⟩=some (.pointer (some ⟨Xs,0,none⟩))/\w'.cell? ⟨w1.heap.size,0,none⟩=some (.int .i64 e.off)/\w'.cell? ⟨w1.heap.size,1,none⟩=some (.slice af e.funcs.length cf)) (up 0 8 ((8,false)::(9,true)::[])) (by kernel_rfl) (by kernel_rfl) ⟨NK,v0,v1⟩ ?_;clear NK v0 v1 y0 y1;have HNA:=V (HNW.out.keeps (P:=fun _=>False) (dS.dV Lh.out.drew) (fun _ h=>h.elim) (nI.keeps (P:=fun _=>False) HNW.out.space HNW.out.xs.1 (dS.dV Lh.out.drew) (fun _ h=>h.elim)));have HF2:=V (HF.out.ext (Ext.dV Lh.out.drew));clear HNW HF Lh;generalize(w1.alloc (.cells #[.int .i64 e.off, .slice af e.funcs.length cf] 95)).drew=w7 at HNA HF2 Kv MG⊢;iterate 8 (first | (apply sk rfl rfl;simp only [pt]) | (apply dT rfl rfl rfl;·(rintro w' ⟨t0,t1,t2⟩;go_wp2;exact⟨rfl,rfl,rfl⟩)))
   refine dZ rfl rfl ?_;go_wp2_with fail;refine(xk w7 s4 Xs sp (.slice af e.funcs.length cf) e.off e.funcs HNA.out.space HF2.out).mono ?_;rintro en w8 ⟨rfl,hs8,MN⟩;have hXn:=nI.Fx (B:=s4) Kv.out (by decide);have hEn:=nI.Fx (B:=s4) MG.out (by decide);have HX8:=V (Kv.out.keeps MN hXn);have HE8:=V (MG.out.keeps MN hEn);have HN8:=V (HNA.out.keeps MN (fun g hg=>⟨hg.1,fun e=>by subst e;exact hXn hg⟩) hs8);clear hXn hEn hs8 MN HNA Kv MG;obtain⟨r,hr⟩:∃r,iK sp e.off e.funcs=r:=⟨_,rfl⟩;rw [hr]at HN8⊢;have HT:=V (show gR (gK m) (m.elems.take (i+1))=r by rw [aQ,HEE.out,Option.toList_some,pP,HEL.out];exact hr);clear hr;cases r with
   | none=>
    simp only [Option.isSome_none];go_wp2_with fail;refine⟨⟨HX8.out.cell 15,HE8.out.cell 0,HE8.out.cell 1⟩,?_⟩;iterate 1 (first | (apply sk rfl rfl;simp only [pt]) | (apply dT rfl rfl rfl;·(rintro w' ⟨t0,t1,t2⟩;go_wp2;exact⟨rfl,rfl,rfl⟩)))
    refine eH ?_;refine aD ?_;go_wp2_with fail
    go_ret2
    exact⟨HN8.out.below, .inr (.inl ⟨HV.out,pL HT.out,rfl⟩)⟩
   | some sp2=>
    simp only [Option.isSome_some];go_wp2_with fail;refine⟨⟨HX8.out.cell 15,HE8.out.cell 0,HE8.out.cell 1⟩,?_⟩;iterate 1 (first | (apply sk rfl rfl;simp only [pt]) | (apply dT rfl rfl rfl;·(rintro w' ⟨t0,t1,t2⟩;go_wp2;exact⟨rfl,rfl,rfl⟩)))
    refine eH ?_;refine aD ?_;go_wp2_with fail;refine HR.out _ _ ⟨i+1,sp2,rfl,by omega,HT.out,HN8.out⟩ ?_;simp [intOf];omega
  ·obtain rfl:i=m.elems.length:=by omega
   rw [aU]at HEL;have hdl:m.eA.length=0:=by rw [HND.out];rfl
   have x13:w1.cell? ⟨X,13,none⟩=some (.slice b7 m.eA.length k7):=HNW.out.kk.cell 13;rw [hdl]at x13;have x14:w1.cell? ⟨X,14,none⟩=some (.pointer pm):=HNW.out.kk.cell 14;clear hdl HR q;go_wp2_with fail;clear x13;refine cU 1 ?_;rw [cO];go_wp2_with fail;clear x14;refine(AT w1 (rm s3 s4) (.pointer pm) (jg m.mem) HNW.out.mem).mono ?_;rintro en w7 ⟨rfl,hm7,hk7⟩;rw [xi]at hm7;have QL:=V (HNW.out.clean hk7 hm7);clear hm7 hk7 HNW;have HJ:=V (show vI w7.heap.size w7 X ⟨.slice b0 m.types.length k0, .slice b1 m.imports.length k1, .slice b2 m.funcs.length k2, .slice b3 m.globals.length k3, .slice b4 m.dY.length k4, .slice b5 m.elems.length k5, .slice b6 m.eh.length k6, .slice b7 m.eA.length k7⟩ (.pointer pm) (.pointer (some ⟨Xs,0,none⟩)) m (.slice none 0 0) []from
    ⟨QL.out.kk,dR.nil _ _,fun i j c h=>by simp at h⟩)
   have x12:w7.cell? ⟨X,12,none⟩=some (.slice b6 m.eh.length k6):=QL.out.kk.cell 12;go_wp2_with fail;clear x12;refine ez (fun a' w'=>∃(k:Nat) (vj:Value) (js:List Nat),a'=fr (gs a' 0 6 (.pointer (some ⟨X,0,none⟩)::gs a' 7 108 (.slice b6 m.eh.length k6:: .int .i64 m.eh.length:: .int .i64 k::gs a' 118 33 [])))/\(k <=m.eh.length/\js.length=k)/\vI w7.heap.size w' X ⟨.slice b0 m.types.length k0, .slice b1 m.imports.length k1, .slice b2 m.funcs.length k2, .slice b3 m.globals.length k3, .slice b4 m.dY.length k4, .slice b5 m.elems.length k5, .slice b6 m.eh.length k6, .slice b7 m.eA.length k7⟩ (.pointer pm) (.pointer (some ⟨Xs,0,none⟩)) m vj js/\dS (fun i=>i=X) w7 w') (fun a' _=>(m.eh.length - (intOf (a'.tmps.getD 117 undef)).toNat)) ?_ ?_
   ·exact⟨0,_,[],rfl,⟨bG _,rfl⟩,HJ.out,dS.refl _ _⟩
   ·clear HJ
    rintro R a' w8 ⟨k,vj,js,Kk,hJ⟩ HR;dsimp only [fr,gs]at Kk;generalize slot a'=f at Kk;subst Kk;obtain⟨⟨hk,hjl⟩,hj,MN⟩:=hJ;subst hjl;have HJ:=V hj;have HK:=V MN;have HN8:=V (QL.out.mod.ext (iG (S':=fun i=> !rm a s3 i) MN (fun i _ hp=>by have:=QL.out.ord;subst hp;simp [rm];omega) (fun _ _ h=>h)));clear hj MN;by_cases q:js.length < m.eh.length;rotate_left
    ·have hjl:js.length=m.eh.length:=by omega
     go_wp2_with fail
     go_ret2
     obtain⟨o1,o2,o3,o4,o5,o6⟩:=QL.out.ord;have h78:=HK.out.size;have hXn:X < w8.heap.size:=by omega
     have hFX:∀g,(rm a s3 g || decide (g=X) || rm w7.heap.size w8.heap.size g)=true↔(a <=g/\g < s3)\/g=X\/(w7.heap.size <=g/\g < w8.heap.size):=fun g=>by simp [rm,or_assoc]
     have hFS:∀g,(rm s4 w7.heap.size g&& !decide (g=X))=true↔(s4 <=g/\g < w7.heap.size)/\g≠X:=fun g=>by simp [rm]
     obtain⟨v,v',p1,p2,p3⟩:=QL.out.space;have PZ:=QL.out.xs;refine⟨QL.out.below.trans (HK.out.below QL.out.below.size (fun g hg=>by omega)), .inr (.inr ⟨X,fun g=>rm a s3 g || decide (g=X) || rm w7.heap.size w8.heap.size g,rm s3 s4,fun g=>rm s4 w7.heap.size g&& !decide (g=X),_,sp,HV.out,HEL.out,rfl,⟨HJ.out.kk,(hFX X).2 (.inr (.inl rfl)),HN8.out.ext (iG (P:=fun _=>False) (dS.refl _ _) (fun _ _ h=>h.elim) (fun g _ hg=>?_)),HJ.out.row.lower (bG _),fun g hg=>(hFX g).2 (.inr (.inr (eo HJ.out.row hg))),fun i j c hj hc=>?_,hjl,fun g hg=>?_⟩,
      QL.out.mem.keeps HK.out (fun g hg=>?_),⟨Xs,v,v',rfl,p1.keeps HK.out (by omega),(p2.lower (bG _)).keeps HK.out (fun g hg e=>dR.gw p2 QL.out.kk (by decide) g hg e),(p3.lower (bG _)).keeps HK.out (fun g hg e=>dR.gw p3 QL.out.kk (by decide) g hg e),(hFS Xs).2 ⟨⟨PZ.1,p1.lt⟩,by omega⟩,
       fun g hg=>(hFS g).2 ⟨eo p2 hg,dR.gw p2 QL.out.kk (by decide) g hg⟩,fun g hg=>(hFS g).2 ⟨eo p3 hg,dR.gw p3 QL.out.kk (by decide) g hg⟩⟩,fun g hg=>?_,fun g=>⟨fun h1=>⟨?_,?_⟩,fun h1=>?_⟩⟩)⟩
     ·cases hr:rm a s3 g with
      | false=>rfl
      | true=>simp [hr]at hg
     ·obtain⟨h1,h2⟩:=HJ.out.maps i j c hj hc
      exact⟨h1,(hFX j).2 (.inr (.inr ⟨h2,h1.lt⟩))⟩
     ·rcases(hFX g).1 hg with h1 | h1 | h1 <;>omega
     ·cases hr:rm s3 s4 g with
      | false=>rfl
      | true=>have:=kQ.1 hr;omega
     ·rcases hg with h1 | h1 | h1
      ·rcases(hFX g).1 h1 with h1 | h1 | h1 <;>omega
      ·have:=kQ.1 h1;omega
      ·have:=(hFS g).1 h1;omega
     ·cases hr:rm s3 s4 g with
      | false=>rfl
      | true=>have:=kQ.1 hr;rcases(hFX g).1 h1 with h1 | h1 | h1 <;>omega
     ·cases hr:(rm s4 w7.heap.size g&& !decide (g=X))with
      | false=>exact hr
      | true=>have:=(hFS g).1 hr;rcases(hFX g).1 h1 with h1 | h1 | h1 <;>omega
     ·have:=kQ.1 h1
      cases hr:(rm s4 w7.heap.size g&& !decide (g=X))with
      | false=>exact hr
      | true=>have:=(hFS g).1 hr;omega
    ·obtain⟨c,hc⟩:∃c,m.eh[js.length]?=some c:=⟨_,aq q⟩
     obtain⟨bc,OI,capc,⟨uc1,uc2⟩,Ls,-,-,hbcl,KH,K8⟩:=ea.at HN8.out.2.2.2.2.2.2.1 hc;injection Ls with e1 e2 e3;subst e1 e3;obtain⟨al,cl,hle,-,hclm⟩:=K8.1.1.sl;obtain⟨ab,cb,PO,-,hcbm⟩:=ea.slice K8.1.2;simp only at hle PO;have y0:w8.cell? ⟨bc,OI+js.length*2,none⟩=some (.slice al c.locals.length cl):=by
      have:=(fX (KH 0 _ rfl)).2;rw [<- hle]
      rwa [aK]at this
     have y1:w8.cell? ⟨bc,OI+js.length*2+1,none⟩=some (.slice ab c.body.length cb):=by
      rw [<- PO];exact(fX (KH 1 _ rfl)).2
     have Pe:=V (show gd w8 (.slice ab c.body.length cb) c.body by rw [<- PO];exact gd.fP K8.1.2);have HCC:=V hc;have HME:=V ((Mp.out.1.1.2.2 c (aO hc)).1);have LI:=(an w8.heap.size w8).alloc (ag _) (.cells #[.slice al c.locals.length cl, .slice ab c.body.length cb] 69);have v1:=(eE.new w8 #[.slice al c.locals.length cl, .slice ab c.body.length cb] 69).two.2.1;have Lh:=V LI;have HRO:=HR;clear hc KH K8 hle PO e2 hbcl LI HR;go_wp2_with fail;clear y0 y1 v1;refine(pC _ c.body _ (Pe.out.below Lh.out)).mono ?_;rintro en w10 ⟨hb,⟨bs,vb,Pb,rfl,K5⟩ | ⟨Pb,-⟩⟩;rotate_left
     ·have:=HME.out
      rw [Pb]at this;cases this
     obtain⟨av,cv,rfl,hcv1,hcvm⟩:=K5.slice;have HMS:=V Pb;have HB10:=V (Lh.out.trans (hb.mono Lh.out.size));have hbm:=(an w10.heap.size w10).alloc (ag _) (.map #[] 0);have HBM:=V hbm;have HBO:=V (K5.below hbm);have HJM:=V (fV.new w10);have N5:=fun wx=>run_makeMap (P:=prog) 72 wx;have hvo:=V (fun g (hg:ey (.slice av bs.length cv) g)=>(eo K5 hg).2);clear hb K5 hbm Pb Lh Pe;go_wp2_with fail;clear N5;obtain⟨j,hj⟩:∃j,j=w10.heap.size:=⟨_,rfl⟩;have hj1:j < (w10.alloc (.map #[] 0)).heap.size:=by rw [aE];omega
     have HVO:=V (show∀g,ey (.slice av bs.length cv) g ->g < j from fun g hg=>by have:=hvo.out g hg;omega);have hj8:w8.heap.size <=j:=by have:=HB10.out.size;omega
     rw [<- hj]at HJM⊢;have HB11:=V (HB10.out.alloc HB10.out.size (.map #[] 0));clear hj hvo HBM HB10;generalize w10.alloc (.map #[] 0)=QH at HBO HJM HB11 hj1⊢;refine ez (fun a' w'=>∃(i:Nat),a'=fr (gs a' 0 6 (.pointer (some ⟨X,0,none⟩)::gs a' 7 10 (.map (some j)::gs a' 18 97 (.slice (some ⟨bc,OI,none⟩) m.eh.length k6:: .int .i64 m.eh.length:: .int .i64 js.length::gs a' 118 10 (.slice av bs.length cv:: .int .i64 bs.length:: .int .i64 i::gs a' 131 20 [])))))/\i <=bs.length/\fV w' j (bs.take i)/\dS (fun g=>g=j) QH w') (fun a' _=>(bs.length - (intOf (a'.tmps.getD 130 undef)).toNat)) ?_ ?_
     ·exact⟨0,rfl,bG _,HJM.out,dS.refl _ _⟩
     ·clear HJM
      rintro R a' w12 ⟨i,Kk,hJ⟩ HR;dsimp only [fr,gs]at Kk;generalize slot a'=f at Kk;subst Kk;obtain⟨hi,hjm,PV⟩:=hJ;have HJM:=V hjm;have HK12:=V PV;have HBO12:=V (HBO.out.keeps PV (fun g hg e=>by have:=HVO.out g hg;omega));clear hjm PV;by_cases q2:i < bs.length
      ·obtain⟨b,hb⟩:∃b,bs[i]?=some b:=⟨_,aq q2⟩
       obtain⟨bb,offb,capb,Ls,hcap1,-,-,KH⟩:=ee.at (HBO12.out.fD jv) hb;injection Ls with e1 e2 e3;subst e1 e3;have y0:=KH 0 _ rfl;have y1:=KH 1 _ rfl;have y2:=KH 2 _ rfl;rw [aK]at y0;have HBI:=V hb;have hbp:=zG HMS.out b (aO hb);have hkey:keyOf prog 3 (.int .i64 b.pos)=some (.int .i64 b.pos):=Maps.keyOf_int_mk Hy (WalkArith.wf_i64 (by omega));have HKEY:=V hkey;have Mv:=(an w12.heap.size w12).alloc (ag _) (.cells (wK b).toArray 107);have QF:=V Mv;obtain⟨n,hn,Ki⟩:=HJM.out.below Mv;have OF:=V Ki;have HNN:=V hn;have hnm:n < maxLen:=by rw [List.length_take]at hn;unfold maxLen;omega
       have HNM:=V hnm;clear hb KH e2 hkey Mv hn Ki hnm hcap1 hbp;go_wp2_with (first | (at_mapUpdate;refine wpList_mapUpdate_own _ rfl _ _ _ 72 rfl 3 107 (Maps.int_keyed Hy) Ie B7 j n (zB (bs.take i)) rfl OF.out HNM.out _ _ (.int .i64 b.pos) rfl rfl HKEY.out (G3 b) [] rfl ?_));intro w13 hown13 OK;have HJ13:=V (show fV w13 j (bs.take (i+1))from⟨n+1,by have:=HNN.out;rw [aR]at this⊢;omega,by rw [aQ,HBI.out,Option.toList_some,Ag];exact hown13⟩);have HK13:=V ((HK12.out.trans (dS.dV (S:=fun _=>False) QF.out) (fun _ h=>h.elim)).trans (zy OK) (fun _ h=> .inl h));clear hown13 OK y0 y1 y2 OF HNM HKEY;go_wp2_with fail;refine HR.out _ _ ⟨i+1,rfl,by omega,HJ13.out,HK13.out⟩ ?_;simp [intOf];omega
      ·obtain rfl:i=bs.length:=by omega
       rw [aU]at HJM;obtain⟨aj,cj,hvj,-,hcjm⟩:=HJ.out.row.slice;subst hvj;have hX12:=(HJ.out.kk.below HB11.out HJ.out.kk.lt).keeps HK12.out (by have:=HJ.out.kk.lt;omega);have x16:w12.cell? ⟨X,16,none⟩=some (.slice aj js.length cj):=hX12.cell 16;have Qa:=V (show dR 72 1 zO w12 w7.heap.size (.slice aj js.length cj) js from(HJ.out.row.below HB11.out).keeps HK12.out (fun g hg e=>by have:=(eo HJ.out.row hg).2;omega));have HX12:=V hX12;have hsz7:w7.heap.size <=w12.heap.size:=by have:=HK.out.size;have:=HB11.out.size;have:=HK12.out.size;omega
       clear hX12 HR q2;go_wp2_with (first | (at_builtin;refine eQ w12 rfl _ _ 91 rfl _ 8 (by kernel_rfl) Ch rfl (by decide) (by decide) w7.heap.size (.slice aj js.length cj) js rfl Qa.out j _ rfl rfl (EU _) rfl (by omega) hsz7 ?_));intro v14 w14 ho hk14 hs14;obtain⟨a2,c2,hv14,-,-⟩:=ho.slice;rw [ah,aB]at hv14;subst hv14;have hX14:=HX12.out.keeps hk14 (fun hg=>dR.gw Qa.out HX12.out (by decide) X hg rfl);have x16:w14.cell? ⟨X,16,none⟩=some (.slice aj js.length cj):=hX14.cell 16;have z16:=hX14.free 16;have HM:=V (vI.more (c:=c) HJ.out HB11.out hj8 HK12.out HCC.out (show fV w12 j (oB c)by unfold oB;rw [HMS.out];exact HJM.out) (by have:=HK.out.size;omega) ho hk14);have OZ:=V ((((HK.out.trans (dS.dV (S:=fun _=>False) HB11.out) (fun _ h=>h.elim)).trans HK12.out (fun g hg=> .inr (by have:=HK.out.size;omega))).trans hk14 (fun g hg=> .inr (eo Qa.out hg).1)).trans (ep w14 X 16 (.slice a2 (js.length+1) c2)) (fun g hg=> .inl hg));clear hX14 ho hk14 hs14;go_wp2_with fail;refine HRO.out _ _ ⟨js.length+1,_,js++[j],rfl,⟨by omega,by simp⟩,HM.out,OZ.out⟩ ?_;simp [intOf];omega
def rQ:ew:=⟨[],[],[0],⟨false,0,0⟩,⟨false,0,0⟩,[],[],[],[],[]⟩
theorem Be:(fe 0 gV).may:=by decide
theorem AW:8 < (fy (fe 0 gV)).length:=by decide
theorem DC:m0.may/\(fy m0).length=8:=by decide
theorem FT:¬ rQ.may:=by decide
theorem IN:qb [120]=none:=by decide
theorem AJ:fN (fe 0 gV) 0=true/\fN (fe 0 (gV.take 2)) 0=false/\fN (fe 0 [⟨0,0,0,[]⟩,⟨106,0,0,[]⟩]) 0=true/\fN (fe 0 gV) 1=false:=by decide
theorem pj:iz (fe 0 gV)= -1/\iz (fe 1 gV)=7/\iz rQ=0:=by decide
theorem Ad:iz (eR [])= -1:=by decide
theorem zz:∀(f:Nat) (n:Int),(iA f n).length <=f
 | 0,_=>by simp [iA]
 | f+1,n=>by
  unfold iA;split
  ·simp
  ·have:=zz f (n/128)
   simp only [aI];omega
theorem GM (n:Int):(ib n).length <=10:=zz 10 n
theorem Cs (x:eK) (h:x.l=[]):(ij x).length <=21:=by
 have h1:=eD x.a.toNat;have h2:=eD x.b.toNat;have h3:=GM x.a;have h4:=eD 0;unfold ij fY;rw [h];split <;>simp only [aI,ah,aM,cR,List.flatten_nil] <;>omega
theorem zq:∀(l:List eK),(∀x∈l,x.l=[]) ->(mV l).length <=21*l.length+1
 | [],_=>by simp [mV]
 | x::l,h=>by
  have h1:=Cs x (h x (by simp));have h2:=zq l (fun y hy=>h y (by simp [hy]));unfold mV at h2⊢;simp only [bC,bS,ah,aI,aM]at h2⊢;omega
theorem Ab (body:List eK):(fy (eR body)).length <=(mV body).length+500:=by
 unfold fy oN;have h1:(fB 1 kW (eR body).types).length <=40:=by show(fB 1 kW (eR []).types).length <=40;decide
 have h2:(fB 2 nq (eR body).imports).length <=40:=by show(fB 2 nq (eR []).imports).length <=40;decide
 have h3:(fB 3 rD (eR body).funcs).length <=40:=by show(fB 3 rD (eR []).funcs).length <=40;decide
 have h4:(fB 4 jf (oneOf (eR body).table)).length <=40:=by show(fB 4 jf (oneOf (eR []).table)).length <=40;decide
 have h5:(fB 5 gC (oneOf (eR body).mem)).length <=40:=by show(fB 5 gC (oneOf (eR []).mem)).length <=40;decide
 have h6:(fB 6 kB (eR body).globals).length <=40:=by show(fB 6 kB (eR []).globals).length <=40;decide
 have h7:(fB 7 nE (eR body).dY).length <=40:=by show(fB 7 nE (eR []).dY).length <=40;decide
 have h8:(fB 9 kI (eR body).elems).length <=40:=by show(fB 9 kI (eR []).elems).length <=40;decide
 have h9:(fB 11 nD (eR body).eA).length=0:=rfl;have h0:fw.length=8:=rfl;have ha:(fB 10 im (eR body).eh).length=1+((eL (eS im (eR body).eh).length).length+((eL 2).length+((im ⟨[],body⟩).length+(im ⟨[],[⟨32,0,0,[]⟩]⟩).length))):=by
  show(10::(eL (eS im (eR body).eh).length++(eL 2++(im ⟨[],body⟩++(im ⟨[],[⟨32,0,0,[]⟩]⟩++[]))))).length=_;simp only [aI,ah,aM];omega
 have hb:=eD (eS im (eR body).eh).length;have hc:=eD 2;have hd:(im ⟨[],body⟩).length=(eL (lT ⟨[],body⟩).length).length+((kh []).length+(mV body).length):=by
  unfold im lT;simp only [ah]
 have he:=eD (lT ⟨[],body⟩).length;have hf:(kh []).length=1:=by decide
 have hg:(im ⟨[],[⟨32,0,0,[]⟩]⟩).length <=20:=by decide
 simp only [ah];omega
theorem FK (body:List eK) (hk:gN.may ⟨[],body⟩) (hl:∀x∈body,x.l=[]):(eR body).may:=by
 have h0:(eR []).may:=by decide
 obtain⟨⟨⟨h1,h2,h3⟩,h4,h5,h6⟩,-⟩:=h0;refine⟨⟨⟨h1,h2,fun x hx=>?_⟩,h4,h5,h6⟩,?_⟩
 ·simp only [eR,bJ,bO,cS]at hx
  rcases hx with rfl | rfl
  ·exact hk
  ·exact h3 _ (by simp [eR])
 ·have:=Ab body
  have:=zq body hl;have:=hk.2.2.1;simp only at this;omega
theorem uR (body:List eK) (hk:gN.may ⟨[],body⟩) (hl:∀x∈body,x.l=[]) (hf:fN (eR body) 0=true):iz (eR body)= -1:=by
 have a1:((eR body).imports.any fun x=>lF (eR body) x.type)=false:=rfl;have a2:((eR body).funcs.any fun t=>lF (eR body) t)=false:=rfl;have a3:kP (eR body).table=false:=rfl;have a4:kP (eR body).mem=false:=rfl;have a5:wS (eR body)=false:=rfl;have a6:(eR body).table.has=true:=rfl;have a7:zu (eR body)=false:=rfl;have a8:fN (eR body) 1=true:=rfl;have a9:jl (eR body) (eR body).eh.length=true:=by
  show((true&&fN (eR body) 0)&&fN (eR body) 1)=true;rw [hf,a8];rfl
 have a10:(eR body).eA.length=0:=rfl;unfold iz;rw [az (FK body hk hl),a1,a2,a3,a4,a5,a6,a7,a9,a10];simp
theorem qI (b:List eK):∀(l:List eK) (i:Nat),(∀x∈l,¬ (x.op=2\/x.op=3\/x.op=4\/x.op=5\/x.op=11)) ->gq b l i ([],[])=some ([],[])
 | [],_,_=>rfl
 | x::l,i,h=>by
  have hx:=h x (by simp);have h1:jS x.op=false:=by
   unfold jS;simp only [dm,dE];omega
  unfold gq gb;rw [aC (by simp [h1]),aJ (by omega)];exact qI b l (i+1) (fun y hy=>h y (by simp [hy]))
theorem xm (l:List eK) (hl:l.length <=300) (h:∀x∈l,¬ (x.op=2\/x.op=3\/x.op=4\/x.op=5\/x.op=11)):fu l=some []:=by
 unfold fu;rw [aC (by omega),qI l l 0 h];rfl
theorem Db (body:List eK) (c:eG) (hm:(fu body).isSome=true) (hr:eG.run (eR body) [] ⟨[],[⟨2,0,0,false⟩],false⟩ body=some c) (hc:c.shut.2.bad=false):fN (eR body) 0=true:=by
 unfold fN;rw [aC (show ¬ ((0:Int) < 0\/((eR body).eh.length:Int) <=0\/((eR body).funcs.length:Int) <=0)from by show ¬ ((0:Int) < 0\/(2:Int) <=0\/(2:Int) <=0);decide)];show(if true=false\/(fu body).isSome=false then false else match eG.run (eR body) [] ⟨[],[⟨2,0,0,false⟩],false⟩ body with
  | none=>false
  | some c=> !c.shut.2.bad&&decide (([]:List Int).length <=32))=true
 rw [hm,hr];simp [hc]
def iV (a:Int):eK:=⟨65,a,0,[]⟩
theorem CK (m:ew) (c:eG) (hc:c.bad=false) (a:Int) (rest:List eK):eG.run m [] c (iV a::rest)=eG.run m [] (c.push [1]) rest:=by
 have h:c.step m [] (iV a)=c.push [1]:=rfl;show(if(c.step m [] (iV a)).bad=true then none else eG.run m [] (c.step m [] (iV a)) rest)=_;rw [h,aC (by show ¬ c.bad=true;simp [hc])]
theorem uq (m:ew):∀(l:List Int) (c:eG) (_:c.bad=false) (rest:List eK),eG.run m [] c (l.map iV++rest)=eG.run m [] (c.push (l.map fun _=>1)) rest
 | [],c,_,rest=>by
  show _=eG.run m [] {c with dX:=c.dX++[]} rest;rw [bW];rfl
 | a::l,c,hc,rest=>by
  rw [bC,bL,CK m c hc,uq m l (c.push [1]) hc rest]
  congr 1
  simp [eG.push]
def BV (X b o g k J:Nat):Array Value:=#[.pointer (some ⟨X,0,none⟩), .pointer (some ⟨b,o,none⟩), .pointer (some ⟨g,k,none⟩), .map (some J)]
def kf (w:World) (D X b o g k J:Nat):Prop:=eE w D (BV X b o g k J) 74
theorem kf.not {w:World} {D X b o g k J:Nat} {pre post:List Value} {t:TypeId} {v:rJ} {s:gI} (h:kf w D X b o g k J) (hs:fS w b pre post t v s):¬ v.own b D:=
 hs.not h (fun e=>by subst e;exact hs.ty.2.2.2 (hs.kk.uniq h)) (by decide)
theorem kf.keeps {P:Nat ->Prop} {w w':World} {D X b o g k J:Nat} (h:kf w D X b o g k J) (hk:dS P w w') (hP:¬ P D):kf w' D X b o g k J:=eE.keeps h hk hP
theorem kf.below {w w':World} {D X b o g k J:Nat} (h:kf w D X b o g k J) (hk:Below w.heap.size w w'):kf w' D X b o g k J:=eE.below h hk h.lt
theorem kf.drew {w:World} {D X b o g k J:Nat} (h:kf w D X b o g k J):kf w.drew D X b o g k J:=eE.drew h
theorem kf.alloc {w:World} {D X b o g k J:Nat} (h:kf w D X b o g k J) (ob:Obj):kf (w.alloc ob) D X b o g k J:=eE.alloc h ob
theorem kf.d0 {w:World} {D X b o g k J:Nat} (h:kf w D X b o g k J):w.cell? ⟨D,0,none⟩=some (.pointer (some ⟨X,0,none⟩)):=eE.cell h 0
theorem kf.d1 {w:World} {D X b o g k J:Nat} (h:kf w D X b o g k J):w.cell? ⟨D,1,none⟩=some (.pointer (some ⟨b,o,none⟩)):=eE.cell h 1
theorem kf.d2 {w:World} {D X b o g k J:Nat} (h:kf w D X b o g k J):w.cell? ⟨D,2,none⟩=some (.pointer (some ⟨g,k,none⟩)):=eE.cell h 2
def fT (b:Nat) (pre post:List Value) (t:TypeId) (v:rJ) (r:jm × gI) (w:World) (e:Ending) (w':World):Prop:=
 ∃v' vv,e= .returned (oc r.1 vv)/\fS w' b pre post t v' r.2/\kJ v v' b w w'/\dR 42 2 gg w' w.heap.size vv r.1.dX/\∀g,ey vv g ->¬ v'.own b g
def lk (w:World) (X:Nat) (a b c:Int) (v:Value):World:=(((w.setCell ⟨X,0,none⟩ (.int .i64 a)).setCell ⟨X,1,none⟩ (.int .i64 b)).setCell ⟨X,2,none⟩ (.int .i64 c)).setCell ⟨X,3,none⟩ v
theorem gu (w:World) (X:Nat) (a b c:Int) (v:Value):dS (fun i=>i=X) w (lk w X a b c v):=
 (((ep w X 0 _).trans (ep _ X 1 _) (fun _ h=> .inl h)).trans (ep _ X 2 _) (fun _ h=> .inl h)).trans (ep _ X 3 _) (fun _ h=> .inl h)
theorem nG {w w2:World} {xs:Array Value} (hx:eE w2 w.heap.size xs 32) (hs:xs.size=4) (a b c:Int) (v:Value):
  (loadVar 32 ⟨w.heap.size,0,none⟩).run prog (lk w2 w.heap.size a b c v)= .ok (.agg #[.int .i64 a, .int .i64 b, .int .i64 c,v]) (lk w2 w.heap.size a b c v):=by
 obtain⟨x0,x1,x2,x3,rfl⟩:∃x0 x1 x2 x3,xs=#[x0,x1,x2,x3]:=by
  match xs,hs with
  | ⟨[x0,x1,x2,x3]⟩,_=>exact⟨x0,x1,x2,x3,rfl⟩
 exact(hx.rS _ _ _ _).pE
theorem fT.mk {w w2:World} {b:Nat} {pre post:List Value} {t:TypeId} {v v':rJ} {r:jm × gI} {o:jm} {s:gI} {vv:Value} (he:r=(o,s)) (hs:fS w2 b pre post t v' s) (ht:kJ v v' b w w2) (hn:¬ v'.own b w.heap.size)
  (hv:dR 42 2 gg w2 w.heap.size vv o.dX) (Nx:∀g,ey vv g ->¬ v'.own b g) (LW:¬ ey vv w.heap.size) (a1 a2 a3:Int) (h1:o.kind=a1) (h2:o.po=a2) (h3:o.fn=a3):
  fT b pre post t v r w (.returned (.agg #[.int .i64 a1, .int .i64 a2, .int .i64 a3,vv])) (lk w2 w.heap.size a1 a2 a3 vv):=by
 subst he h1 h2 h3;have Km:=gu w2 w.heap.size o.kind o.po o.fn vv;exact⟨v',vv,rfl,hs.keeps Km (fun g hg e=>hn (e▸hg)),⟨ht.1.trans Km (fun i hi=> .inr (by omega)),ht.2⟩,hv.keeps Km (fun g hg e=>LW (e▸hg)),Nx⟩
def kC (l1 puts:List fb) (s:gI) (lo:List eW) (f:eW):jm × gI:=
 if 1000 < l1.length+puts.length then(.full,s)else(.more,⟨l1++puts,lo++[{f with pc:=f.pc+1}],s.asks⟩)
theorem fS.xz {w:World} {b:Nat} {pre post:List Value} {t:TypeId} {v:rJ} {s:gI} (h:fS w b pre post t v s):¬ v.own b w.heap.size:=fun hg=>by have:=h.lt hg;omega
theorem qK (w:World) (D X b g J cap:Nat) (pre post:List Value) (t:TypeId) (uv:Value) (us:List (Value × Value)) (u:Value × Value) (l1 l2 puts:List fb) (lo:List eW) (f:eW) (asks:Int) (pv:Value) (kz:Int) (hkz:kz=l2.length)
  (KI:fS w b pre post t ⟨uv, .slice (some ⟨g,0,none⟩) (lo.length+1) cap,us++[u]⟩ ⟨l1++l2,lo++[f],asks⟩) (hd:kf w D X b pre.length g (lo.length*5) J) (hp:ee 2 gg w pv puts)
  (hn:l1.length+puts.length <=100000) (N0: -1 <=f.pc/\f.pc <=1000000):
  Calls prog 19 #[.pointer (some ⟨D,0,none⟩), .int .i64 kz,pv] w (fT b pre post t ⟨uv, .slice (some ⟨g,0,none⟩) (lo.length+1) cap,us++[u]⟩ (kC l1 puts ⟨l1++l2,lo++[f],asks⟩ lo f) w):=by
 subst hkz;obtain⟨av,cv,huv,LC,Mr⟩:=KI.dX.slice;simp only [ah]at huv LC;subst huv;obtain⟨ap,cp,rfl,-,hcpm,-⟩:=id hp;unfold maxLen at hcpm;have KK:=(an w.heap.size w).alloc (ag _) (.cells #[.int .i64 0, .int .i64 0, .int .i64 0, .slice none 0 0] 32);have HX:=V (eE.new w #[.int .i64 0, .int .i64 0, .int .i64 0, .slice none 0 0] 32);have Qf:=V KI;have Ko:=V (KI.below KK);have HD:=V (hd.below KK);have HP:=V (hp.below KK);have HT:=V (kJ.dV (v:=⟨.slice av (l1.length+l2.length) cv, .slice (some ⟨g,0,none⟩) (lo.length+1) cap,us++[u]⟩) (b:=b) KK);have d1:=HD.out.d1;have c0:World.cell? _ ⟨b,pre.length,none⟩=some (.slice av (l1.length+l2.length) cv):=Ko.out.c0;clear KI hd hp KK;by_cases q:1000 < l1.length+puts.length
 ·have f1:decide ((1000:Int) < (l1.length:Int)+(puts.length:Int))=true:=az (by omega)
  have f2:decide (1000 < l1.length+puts.length)=true:=az q;have HR:=V (show kC l1 puts ⟨l1++l2,lo++[f],asks⟩ lo f=(.full,⟨l1++l2,lo++[f],asks⟩)by unfold kC;rw [if_pos q]);clear q;go_enter func19,ntmps19;go_wp2_with fail;refine(zI _).mono ?_;rintro e w2 ⟨rfl,hb⟩;replace HX:=V (HX.out.below hb HX.out.lt);replace Ko:=V (Ko.out.below hb);replace HT:=V (HT.out.below hb);clear hb d1 c0;obtain⟨⟨x0,x1,x2,x3⟩,z0,z1,z2,z3⟩:=HX.out.four;go_wp2_with fail;refine aN (eu rfl _ _ rfl (nG HX.out rfl 5 0 0 (.slice none 0 0))) rfl ?_;exact fT.mk HR.out Ko.out HT.out Qf.out.xz (dR.nil _ _) (fun g hg=>by simp [ey,Value.ownBlock]at hg) (by simp [ey,Value.ownBlock]) 5 0 0 rfl rfl rfl
 ·have f1:decide ((1000:Int) < (l1.length:Int)+(puts.length:Int))=false:=aA (by omega)
  have f2:decide (1000 < l1.length+puts.length)=false:=aA q;have HR:=V (show kC l1 puts ⟨l1++l2,lo++[f],asks⟩ lo f=(.more,⟨l1++puts,lo++[{f with pc:=f.pc+1}],asks⟩)by unfold kC;rw [if_neg q]);clear q;have LV:=fun wx=>za av (l1.length+l2.length) cv l1.length (by omega) wx;go_enter func19,ntmps19;go_wp2_with fail;refine eP (fun w'=>w'.cell? ⟨D,1,none⟩=some (.pointer (some ⟨b,pre.length,none⟩))/\w'.cell? ⟨b,pre.length,none⟩=some (.slice av (l1.length+l2.length) cv)) 17 (up 0 14 ((14,false)::(15,true)::(16,true)::[])) (by kernel_rfl) (by kernel_rfl) ⟨d1,c0⟩ ?_;replace HX:=V HX.out.drew;replace Ko:=V Ko.out.drew;replace HD:=V HD.out.drew;replace HP:=V (HP.out.below (an _ _).drew);replace HT:=V HT.out.drew;clear d1 c0;generalize(w.alloc (.cells #[.int .i64 0, .int .i64 0, .int .i64 0, .slice none 0 0] 32)).drew=w1 at HX Ko HD HP HT⊢;iterate 14 (first | (apply sk rfl rfl;simp only [pt]) | (apply dT rfl rfl rfl;·(rintro w' ⟨t0,t1⟩;go_wp2;exact⟨rfl,rfl,rfl⟩)))
  refine dZ rfl rfl ?_;clear LV;have HC:=V (show dR 42 2 gg w1 0 (.slice av l1.length cv) l1 by
   have h:=dR.take gh Ko.out.dX l1.length (by simp)
   rwa [dx rfl]at h)
  go_wp2_with (first | (at_builtin;refine xH w1 rfl _ _ 30 rfl _ 16 (by kernel_rfl) kZ rfl (by decide) (by decide) 0 (.slice av l1.length cv) l1 rfl HC.out gh _ puts rfl HP.out (fun y _=>lI y) (by omega) (bG _) ?_));intro v2 w2 ho hk hs;obtain⟨a2,c2,LW,-,-⟩:=ho.slice;rw [ah]at LW;subst LW;replace hk:dS (ey (.slice av (l1.length+l2.length) cv)) w1 w2:=hk.mono (fun i hi=>(dR.same i).1 hi);replace hs:eC w1 (.slice av (l1.length+l2.length) cv) (.slice a2 (l1.length+puts.length) c2):=fun i hi=>(hs i hi).imp (fun h=>(dR.same i).1 h) id;have KD:=Ko.out.FL hk;obtain⟨KP,HT2⟩:=Ko.out.xD ho hk hs;have hDn:=HD.out.not Ko.out;have hXn:¬ ey (.slice av (l1.length+l2.length) cv) w.heap.size:=fun hg=>dR.gw Ko.out.dX HX.out (by decide) _ hg rfl;have O1:=HD.out.keeps hk (fun hg=>hDn (.inr (.inl hg)));have Kv:=V (HX.out.keeps hk hXn);have c0:w2.cell? ⟨b,pre.length,none⟩=some (.slice av (l1.length+l2.length) cv):=(KD.1.cell _).trans (re _ _ _ _);have z0:=KD.1.free pre.length;have d1:=O1.d1;have HSS:=V KP;have HTT:=V (HT.out.trans HT2);have Qg:=V (O1.keeps (ep w2 b pre.length (.slice a2 (l1.length+puts.length) c2)) (fun e=>hDn (.inl e)));have PS:=V (Kv.out.keeps (ep w2 b pre.length (.slice a2 (l1.length+puts.length) c2)) (fun e=>Qf.out.xz (.inl e)));clear KD KP HT2 hDn hXn O1 Kv hk hs ho HC HX HT Ko HP HD;go_wp2_with fail;refine⟨⟨d1,c0⟩,?_⟩;iterate 2 (first | (apply sk rfl rfl;simp only [pt]) | (apply dT rfl rfl rfl;·(rintro w' ⟨t0,t1⟩;go_wp2;exact⟨rfl,rfl,rfl⟩)))
  refine fI rfl rfl ?_;go_wp2_with fail;refine⟨trivial,?_⟩;refine aD ?_;clear d1 c0 z0;generalize w2.setCell ⟨b,pre.length,none⟩ (.slice a2 (l1.length+puts.length) c2)=w3 at HSS HTT Qg PS⊢;obtain⟨⟨-,p1,-,-,-⟩,-,-,zg,-,-⟩:=HSS.out.cells;have z1:=zg (lo.length*5+1);have d2:=Qg.out.d2;have hp1: -1 <=f.pc:=N0.1;have Pa:f.pc <=1000000:=N0.2;have HNP:=V (HSS.out.Ic {f with pc:=f.pc+1} 1 (x:= .int .i64 (f.pc+1)) (by decide) rfl rfl rfl);have PS:=V (PS.out.keeps (ep w3 g (lo.length*5+1) (.int .i64 (f.pc+1))) (fun e=>Qf.out.xz (.inr (.inr (.inl (by rw [e];simp [ey,Value.ownBlock]))))));clear zg N0;go_wp2_with fail;clear p1 z1 d2;generalize w3.setCell ⟨g,lo.length*5+1,none⟩ (.int .i64 (f.pc+1))=w4 at HNP PS⊢;refine(tB _).mono ?_;rintro e w5 ⟨rfl,hb⟩;replace HX:=V (PS.out.below hb PS.out.lt);have Ko:=V (HNP.out.1.below hb);have HT:=V ((HTT.out.trans HNP.out.2).below hb);clear hb PS HNP HTT;obtain⟨⟨x0,x1,x2,x3⟩,z0,z1,z2,z3⟩:=HX.out.four;go_wp2_with fail;refine aN (eu rfl _ _ rfl (nG HX.out rfl 1 0 0 (.slice none 0 0))) rfl ?_;have Lb:=Qf.out.kk.lt;exact fT.mk HR.out Ko.out HT.out (Ko.out.not HX.out (by omega) (by decide)) (dR.nil _ _) (fun g hg=>by simp [ey,Value.ownBlock]at hg) (by simp [ey,Value.ownBlock]) 1 0 0 rfl rfl rfl
def kL (l1 l2:List fb) (res:Bool):List fb:=if res=true then l1++(l1++l2).getLast?.toList else l1
def GF (b:Nat) (pre post:List Value) (t:TypeId) (uv uf:Value) (us:List (Value × Value)) (QK:List fb) (s:gI) (w:World) (e:Ending) (w':World):Prop:=
 ∃uv',e= .returned (.tuple #[])/\fS w' b pre post t ⟨uv',uf,us⟩ {s with dX:=QK}/\kJ ⟨uv,uf,us⟩ ⟨uv',uf,us⟩ b w w'
theorem Fj (w:World) (D X b g k J:Nat) (pre post:List Value) (t:TypeId) (uv uf:Value) (us:List (Value × Value)) (l1 l2:List fb) (ef:List eW) (asks:Int) (hz:Int) (hhz:hz=l1.length) (res:Bool) (KX:res=true ->l1++l2≠[])
  (KI:fS w b pre post t ⟨uv,uf,us⟩ ⟨l1++l2,ef,asks⟩) (hd:kf w D X b pre.length g k J) (hn:l1.length+l2.length <=100000):
  Calls prog 55 #[.pointer (some ⟨D,0,none⟩), .int .i64 hz, .bool res] w (GF b pre post t uv uf us (kL l1 l2 res) ⟨l1++l2,ef,asks⟩ w):=by
 subst hhz;obtain⟨av,cv,huv,LC,Mr⟩:=KI.dX.slice;simp only [ah]at huv LC;subst huv;have KK:=(an w.heap.size w).drew;have Ko:=V KI.drew;have HD:=V hd.drew;have HT:=V (kJ.dV (v:=⟨.slice av (l1.length+l2.length) cv,uf,us⟩) (b:=b) KK);have d1:=HD.out.d1;have c0:World.cell? _ ⟨b,pre.length,none⟩=some (.slice av (l1.length+l2.length) cv):=Ko.out.c0;have LV:=fun wx=>za av (l1.length+l2.length) cv l1.length (by omega) wx;have HC:=V (show dR 42 2 gg w.drew 0 (.slice av l1.length cv) l1 by
   have h:=dR.take gh Ko.out.dX l1.length (by simp)
   rwa [dx rfl]at h)
 clear KI hd KK;cases res
 ·clear KX
  go_enter func55,ntmps55;go_wp2_with fail;refine eP (fun w'=>w'.cell? ⟨D,1,none⟩=some (.pointer (some ⟨b,pre.length,none⟩))/\w'.cell? ⟨b,pre.length,none⟩=some (.slice av (l1.length+l2.length) cv)) 15 (up 0 15 []) (by kernel_rfl) (by kernel_rfl) ⟨d1,c0⟩ ?_;clear d1 c0;generalize w.drew=w1 at Ko HD HT HC⊢;iterate 15 (first | (apply sk rfl rfl;simp only [pt]) | (apply dT rfl rfl rfl;·(rintro w' ⟨t0,t1⟩;go_wp2;exact⟨rfl,rfl,rfl⟩)))
  refine fI rfl rfl ?_;have c0:w1.cell? ⟨b,pre.length,none⟩=some (.slice av (l1.length+l2.length) cv):=Ko.out.c0;have z0:=Ko.out.kk.free pre.length;go_wp2_with fail;refine⟨trivial,?_⟩;refine aD ?_;go_wp2_with fail
  go_end0
  obtain⟨h1,h2⟩:=Ko.out.xD HC.out (dS.refl _ _) (fun i hi=> .inl ((dR.same i).1 hi));exact⟨_,rfl,h1,HT.out.trans h2⟩
 ·obtain⟨l,x,hlx⟩:=qZ (KX rfl)
  have HL:=V hlx;have HK:Hid (kL l1 l2 true=l1++[x]):=V (by unfold kL;rw [if_pos rfl,hlx];simp);clear KX hlx;go_enter func55,ntmps55;go_wp2_with fail;refine eP (fun w'=>w'.cell? ⟨D,1,none⟩=some (.pointer (some ⟨b,pre.length,none⟩))/\w'.cell? ⟨b,pre.length,none⟩=some (.slice av (l1.length+l2.length) cv)) 19 (up 0 14 ((14,false)::(15,false)::(16,false)::(17,true)::(18,true)::[])) (by kernel_rfl) (by kernel_rfl) ⟨d1,c0⟩ ?_;clear d1 c0;generalize w.drew=w1 at Ko HD HT HC⊢;iterate 14 (first | (apply sk rfl rfl;simp only [pt]) | (apply dT rfl rfl rfl;·(rintro w' ⟨t0,t1⟩;go_wp2;exact⟨rfl,rfl,rfl⟩)))
  clear LV;refine dZ rfl rfl ?_;go_wp2_with fail;refine(yT w1 D b pre.length 0 (.slice av (l1.length+l2.length) cv) l x HD.out.d1 Ko.out.c0 (by rw [<- HL.out];exact Ko.out.dX)).mono ?_;rintro e w2 ⟨rfl,hb⟩;replace Ko:=V (Ko.out.below hb);replace HD:=V (HD.out.below hb);replace HT:=V (HT.out.below hb);replace HC:=V (HC.out.below hb);clear hb;go_wp2_with fail;refine⟨⟨HD.out.d1,Ko.out.c0⟩,?_⟩;refine dZ rfl rfl ?_;go_wp2_with fail;refine⟨⟨(HD.out.alloc _).d1,(Ko.out.alloc _).c0⟩,?_⟩;refine dZ rfl rfl ?_;go_wp2_with (first | (at_builtin;refine eQ w2 rfl _ _ 30 rfl _ 16 (by kernel_rfl) kZ rfl (by decide) (by decide) 0 (.slice av l1.length cv) l1 rfl HC.out (⟨x.kind,x.n⟩:fb) _ rfl rfl (lI _) rfl (by omega) (bG _) ?_));intro v2 w3 ho hk hs;obtain⟨a2,c2,LW,-,-⟩:=ho.slice;have e2:(l1++[(⟨x.kind,x.n⟩:fb)]).length=l1.length+1:=by simp
  rw [e2]at LW;subst LW;replace hk:dS (ey (.slice av (l1.length+l2.length) cv)) w2 w3:=hk.mono (fun i hi=>(dR.same i).1 hi);replace hs:eC w2 (.slice av (l1.length+l2.length) cv) (.slice a2 (l1.length+1) c2):=fun i hi=>(hs i hi).imp (fun h=>(dR.same i).1 h) id;have KD:=Ko.out.FL hk;have HP:=V (Ko.out.xD ho hk hs);have d1:=(HD.out.keeps hk (fun hg=>HD.out.not Ko.out (.inr (.inl hg)))).d1;have c0:w3.cell? ⟨b,pre.length,none⟩=some (.slice av (l1.length+l2.length) cv):=(KD.1.cell _).trans (re _ _ _ _);have z0:=KD.1.free pre.length;clear KD hk hs ho e2;go_wp2_with fail;refine⟨⟨d1,c0⟩,?_⟩;iterate 2 (first | (apply sk rfl rfl;simp only [pt]) | (apply dT rfl rfl rfl;·(rintro w' ⟨t0,t1⟩;go_wp2;exact⟨rfl,rfl,rfl⟩)))
  refine fI rfl rfl ?_;go_wp2_with fail;refine⟨trivial,?_⟩;refine aD ?_;go_wp2_with fail
  go_end0
  rw [HK.out];exact⟨_,rfl,HP.out.1,HT.out.trans HP.out.2⟩
def oo (m:ew) (f:Int) (t:gy):Prop:=
 (∃(i ti:Nat) (x:jd),m.imports[i]?=some x/\x.type=(ti:Int)/\m.types[ti]?=some t/\f=(i:Int))\/∃i ti:Nat,m.funcs[i]?=some (ti:Int)/\m.types[ti]?=some t/\f=((m.imports.length+i:Nat):Int)
theorem qR (w:World) (FX:Nat ->Bool) (X:Nat) (iv:qA) (m:ew) (h:jk w FX X iv m) (t:gy) (f:Int) (hf:oo m f t) (hk:m.imports.length+m.funcs.length <=100000):
  Calls prog 41 #[.pointer (some ⟨X,0,none⟩), .int .i64 f] w (AO FX t w):=by
 rcases hf with⟨i,ti,x,h1,h2,h3,h4⟩ | ⟨i,ti,h1,h2,h3⟩
 ·exact Ea w FX X iv m h i ti x t h1 h2 h3 f h4 hk
 ·exact Fs w FX X iv m h i ti t h1 h2 f h3 hk
def uI (vs:List fb) (lo:List eW) (asks:Int):jm × gI:=if 0 < lo.length then(.more,⟨vs,lo,asks⟩)else(⟨3,0,0,vs⟩,⟨vs,lo,asks⟩)
def I3 (T:Nat) (t:gy) (w0 w:World):Prop:=∃ap cp ar cr,eE w T #[.slice ap t.params.length cp, .slice ar t.results.length cr] 109/\cr <=9223372036854775807/\Below w0.heap.size w0 w/\w0.heap.size <=T
theorem CM (l1 l2:List fb) (res:Bool) (h:l1.length+l2.length <=50000):(kL l1 l2 res).length <=1000000:=by
 unfold kL;split
 ·rw [ah]
  have:(l1++l2).getLast?.toList.length <=1:=by cases(l1++l2).getLast? <;>simp
  omega
 ·omega
theorem Dv (w:World) (FX:Nat ->Bool) (D X b g J cap:Nat) (iv:qA) (m:ew) (pre post:List Value) (t:TypeId) (uv:Value) (us:List (Value × Value)) (u:Value × Value) (l1 l2:List fb) (lo:List eW) (fq:eW) (asks:Int) (ty:gy)
  (KI:fS w b pre post t ⟨uv, .slice (some ⟨g,0,none⟩) (lo.length+1) cap,us++[u]⟩ ⟨l1++l2,lo++[fq],asks⟩) (hd:kf w D X b pre.length g (lo.length*5) J) (K8:jk w FX X iv m) (hty:oo m fq.fn ty) (hk:m.imports.length+m.funcs.length <=100000)
  (KO:fq.base=(l1.length:Int)) (KX:0 < ty.results.length ->l1++l2≠[]) (hn:l1.length+l2.length <=50000):
  Calls prog 25 #[.pointer (some ⟨D,0,none⟩)] w (fT b pre post t ⟨uv, .slice (some ⟨g,0,none⟩) (lo.length+1) cap,us++[u]⟩ (uI (kL l1 l2 (decide (0 < ty.results.length))) lo asks) w):=by
 have KK:=(an w.heap.size w).alloc (ag _) (.cells #[.int .i64 0, .int .i64 0, .int .i64 0, .slice none 0 0] 32);have HX:=V (eE.new w #[.int .i64 0, .int .i64 0, .int .i64 0, .slice none 0 0] 32);have Qf:=V KI;have Ko:=V (KI.below KK);have HD:=V (hd.below KK);have KV:=V (K8.below KK);have HTY:=V hty;have HT:=V (kJ.dV (v:=⟨uv, .slice (some ⟨g,0,none⟩) (lo.length+1) cap,us++[u]⟩) (b:=b) KK);have HBS:=V KO;have HRS:=V KX;have Lb:=KI.kk.lt;clear KI hd K8 KK hty KO KX;go_enter func25,ntmps25;go_wp2_with fail;generalize(w.alloc (.cells #[.int .i64 0, .int .i64 0, .int .i64 0, .slice none 0 0] 32))=w0 at HX Ko HD KV HT⊢;refine wp_cut (fun a' w'=>∃(T:Nat),a'=fr (.pointer (some ⟨D,0,none⟩)::gs a' 1 1 (.pointer (some ⟨w.heap.size,0,none⟩):: .pointer (some ⟨T,0,none⟩)::gs a' 4 71 []))/\I3 T ty w0 w') ?_ ?_
 ·obtain⟨⟨p0,-,-,-,-⟩,-,-,-,-,-,-⟩:=Ko.out.cells
  have d0:=HD.out.d0;have d2:=HD.out.d2;have HSB:=V (show∀w',Below w0.heap.size w0 w' ->w'.cell? ⟨D,0,none⟩=some (.pointer (some ⟨X,0,none⟩))/\w'.cell? ⟨D,2,none⟩=some (.pointer (some ⟨g,lo.length*5,none⟩))/\w'.cell? ⟨g,lo.length*5,none⟩=some (.int .i64 fq.fn)from
   fun w' hb=>⟨(Ext.dV hb).1 _ _ d0,(Ext.dV hb).1 _ _ d2,(Ext.dV hb).1 _ _ p0⟩)
  refine lC (fun w'=>w'.cell? ⟨D,0,none⟩=some (.pointer (some ⟨X,0,none⟩))/\w'.cell? ⟨D,2,none⟩=some (.pointer (some ⟨g,lo.length*5,none⟩))/\w'.cell? ⟨g,lo.length*5,none⟩=some (.int .i64 fq.fn)) (ord [(0,true),(1,true),(2,true),(3,true),(4,true),(5,true),(6,true),(7,true),(8,true),(9,true),(10,true)]
   (.fork 11 15 (ord [(12,true),(13,true),(14,true),(15,false),(16,false),(17,true)] .nil) (ord [(11,false),(12,true),(13,true),(14,true),(16,false),(17,true)] .nil))) (by kernel_rfl) (by kernel_rfl) (HSB.out _ (an _ _).drew) ?_
  clear p0 d0 d2;dsimp only [ord];iterate 11 (first | (apply ord_skip rfl rfl;simp only [Act.put,aZ,bE,bH]) | (apply iw rfl rfl rfl;·(rintro w' ⟨t0,t1,t2⟩;go_wp2;exact⟨rfl,rfl,rfl⟩)))
  refine pg rfl rfl rfl rfl ?_ ?_
  ·go_wp2_with fail
   refine(qR _ FX X iv m (KV.out.below (an _ _).drew) ty fq.fn HTY.out hk).mono ?_;rintro e w2 ⟨u1,u2,rfl,h1,h2,KF⟩;have hb:Below w0.heap.size w0 w2:=fM KF;obtain⟨ap,cp,rfl,-,-⟩:=h1.sl;obtain⟨ar,cr,rfl,-,hcr⟩:=h2.sl;have HB:=V hb;clear h1 h2 hb KF;go_wp2_with fail;refine⟨HSB.out _ HB.out,?_⟩;iterate 3 (first | (apply ord_skip rfl rfl;simp only [Act.put,aZ,bE,bH]) | (apply iw rfl rfl rfl;·(rintro w' ⟨t0,t1,t2⟩;go_wp2;exact⟨rfl,rfl,rfl⟩)))
   refine fH rfl rfl ?_;have Kl:=HB.out.alloc HB.out.size (.cells #[.slice none 0 0, .slice none 0 0] 109);have hT:=eE.new w2 #[.slice none 0 0, .slice none 0 0] 109;have hT1:=HB.out.size;go_wp2_with fail;refine⟨HSB.out _ Kl,?_⟩;refine fH rfl rfl ?_;generalize w2.alloc (.cells #[.slice none 0 0, .slice none 0 0] 109)=w3 at Kl hT⊢;obtain⟨x0,x1,z0,z1⟩:=hT.two;go_wp2_with fail;have Km:=fC w3 w2.heap.size (.slice ap ty.params.length cp) (.slice ar ty.results.length cr);have K4:=Kl.trans (Km.below Kl.size (fun i hi=>by omega));refine⟨HSB.out _ K4,?_⟩;iterate 1 (first | (apply ord_skip rfl rfl;simp only [Act.put,aZ,bE,bH]) | (apply iw rfl rfl rfl;·(rintro w' ⟨t0,t1,t2⟩;go_wp2;exact⟨rfl,rfl,rfl⟩)))
   refine lX ?_;refine aD ?_;exact⟨rfl,w2.heap.size,rfl,ap,cp,ar,cr,hT.mX _ _,hcr,K4,hT1⟩
  ·have Kl:=((an w0.heap.size w0).alloc (ag _) (.cells #[.slice none 0 0, .slice none 0 0] 109)).drew
   have hT:=(eE.new w0 #[.slice none 0 0, .slice none 0 0] 109).drew;go_wp2_with fail;refine⟨HSB.out _ Kl,?_⟩;refine fH rfl rfl ?_;have KR:=V Kl;have HT2:=V hT;generalize(w0.alloc (.cells #[.slice none 0 0, .slice none 0 0] 109)).drew=w3 at KR HT2⊢;clear Kl hT;go_wp2_with fail;refine(qR _ FX X iv m (KV.out.below KR.out) ty fq.fn HTY.out hk).mono ?_;rintro e w4 ⟨u1,u2,rfl,h1,h2,hb⟩;obtain⟨ap,cp,rfl,-,-⟩:=h1.sl;obtain⟨ar,cr,rfl,-,hcr⟩:=h2.sl;have Md:=KR.out.trans (hb.mono KR.out.size);have hT4:=HT2.out.below hb HT2.out.lt;clear h1 h2 hb KR HT2;go_wp2_with fail;refine⟨HSB.out _ Md,?_⟩;iterate 3 (first | (apply ord_skip rfl rfl;simp only [Act.put,aZ,bE,bH]) | (apply iw rfl rfl rfl;·(rintro w' ⟨t0,t1,t2⟩;go_wp2;exact⟨rfl,rfl,rfl⟩)))
   refine fH rfl rfl ?_;obtain⟨x0,x1,z0,z1⟩:=hT4.two;go_wp2_with fail;have Km:=fC w4 w0.heap.size (.slice ap ty.params.length cp) (.slice ar ty.results.length cr);have Lm:=Md.trans (Km.below Md.size (fun i hi=>by omega));refine⟨HSB.out _ Lm,?_⟩;iterate 1 (first | (apply ord_skip rfl rfl;simp only [Act.put,aZ,bE,bH]) | (apply iw rfl rfl rfl;·(rintro w' ⟨t0,t1,t2⟩;go_wp2;exact⟨rfl,rfl,rfl⟩)))
   refine lX ?_;refine aD ?_;exact⟨rfl,w0.heap.size,rfl,ap,cp,ar,cr,hT4.mX _ _,hcr,Lm,ag _⟩
 ·skip
  rintro a' w1 ⟨T,Kk,hJ⟩;dsimp only [fr,gs]at Kk;generalize slot a'=f at Kk;subst Kk;obtain⟨ap,cp,ar,cr,hT,hcr,hb,hTn⟩:=hJ;replace HX:=V (HX.out.below hb HX.out.lt);replace Ko:=V (Ko.out.below hb);replace HD:=V (HD.out.below hb);replace HT:=V (HT.out.below hb);have hww:=hb.size;clear hb KV HTY;obtain⟨⟨-,-,-,p3,-⟩,-,-,-,-,-,-⟩:=Ko.out.cells;rw [HBS.out]at p3;have hS:w1.drew.cell? ⟨D,2,none⟩=some (.pointer (some ⟨g,lo.length*5,none⟩))/\w1.drew.cell? ⟨g,lo.length*5+3,none⟩=some (.int .i64 (l1.length:Int))/\w1.drew.cell? ⟨T,1,none⟩=some (.slice ar ty.results.length cr):=⟨HD.out.d2,p3,hT.two.2.1⟩;clear p3;obtain⟨res,KX⟩:∃res,decide (0 < ty.results.length)=res:=⟨_,rfl⟩;have f1:decide ((0:Int) < (ty.results.length:Int))=res:=by rw [<- KX];congr 1;apply propext;omega
  have HRS:=V (show res=true ->l1++l2≠[]from fun h=>HRS.out (by rw [h]at KX;exact cD KX));have HRE:=V KX;go_wp2_with fail;refine eP (fun w'=>w'.cell? ⟨D,2,none⟩=some (.pointer (some ⟨g,lo.length*5,none⟩))/\w'.cell? ⟨g,lo.length*5+3,none⟩=some (.int .i64 (l1.length:Int))/\w'.cell? ⟨T,1,none⟩=some (.slice ar ty.results.length cr)) 12 (up 0 12 []) (by kernel_rfl) (by kernel_rfl) hS ?_;clear hS;iterate 12 (first | (apply sk rfl rfl;simp only [pt]) | (apply dT rfl rfl rfl;·(rintro w' ⟨t0,t1,t2⟩;go_wp2;exact⟨rfl,rfl,rfl⟩)))
  refine fI rfl rfl ?_;replace HX:=V HX.out.drew;replace Ko:=V Ko.out.drew;replace HD:=V HD.out.drew;replace HT:=V HT.out.drew;clear hT KX;generalize w1.drew=w2 at HX Ko HD HT⊢;clear f1;go_wp2_with fail;refine(Fj w2 D X b g (lo.length*5) J pre post t uv (.slice (some ⟨g,0,none⟩) (lo.length+1) cap) (us++[u]) l1 l2 (lo++[fq]) asks _ rfl res HRS.out Ko.out HD.out (by omega)).mono ?_;rintro e w3 ⟨uv',rfl,hst3,ht3⟩;have hXn:=Ko.out.not HX.out (by omega) (by decide);replace HX:=V (HX.out.keeps ht3.1 hXn);replace HD:=V (HD.out.keeps ht3.1 (HD.out.not Ko.out));replace HT:=V (HT.out.trans ht3);replace Ko:=V hst3;clear hst3 ht3 hXn;go_wp2_with fail;refine⟨trivial,?_⟩;refine aD ?_;have hS:w3.drew.cell? ⟨D,1,none⟩=some (.pointer (some ⟨b,pre.length,none⟩))/\w3.drew.cell? ⟨b,pre.length+1,none⟩=some (.slice (some ⟨g,0,none⟩) (lo.length+1) cap):=⟨HD.out.d1,Ko.out.c1⟩;obtain⟨-,-,-,-,-,K7,Mr⟩:=Ko.out.cells;have LV:=fun wx=>D1 (some ⟨g,0,none⟩) (lo.length+1) cap lo.length (by omega) wx;go_wp2_with fail;refine eP (fun w'=>w'.cell? ⟨D,1,none⟩=some (.pointer (some ⟨b,pre.length,none⟩))/\w'.cell? ⟨b,pre.length+1,none⟩=some (.slice (some ⟨g,0,none⟩) (lo.length+1) cap)) 23 (up 0 23 []) (by kernel_rfl) (by kernel_rfl) hS ?_;clear hS;replace HX:=V HX.out.drew;replace Ko:=V Ko.out.drew;replace HD:=V HD.out.drew;replace HT:=V HT.out.drew;generalize w3.drew=w4 at HX Ko HD HT⊢;iterate 23 (first | (apply sk rfl rfl;simp only [pt]) | (apply dT rfl rfl rfl;·(rintro w' ⟨t0,t1⟩;go_wp2;exact⟨rfl,rfl,rfl⟩)))
  clear LV;refine fI rfl rfl ?_;have c1:w4.cell? ⟨b,pre.length+1,none⟩=some (.slice (some ⟨g,0,none⟩) (lo.length+1) cap):=Ko.out.c1;have z1:=Ko.out.kk.free (pre.length+1);go_wp2_with fail;refine⟨trivial,?_⟩;refine aD ?_;clear c1 z1;obtain⟨h1,h2⟩:=Ko.out.EY;have hXn:=Ko.out.not HX.out (by omega) (by decide);replace HX:=V (HX.out.keeps h2.1 hXn);replace HD:=V (HD.out.keeps h2.1 (HD.out.not Ko.out));replace HT:=V (HT.out.trans h2);replace Ko:=V h1;clear h1 h2 hXn;generalize w4.setCell ⟨b,pre.length+1,none⟩ (.slice (some ⟨g,0,none⟩) lo.length cap)=w5 at HX Ko HD HT⊢;have d1:=HD.out.d1;have c1:w5.cell? ⟨b,pre.length+1,none⟩=some (.slice (some ⟨g,0,none⟩) lo.length cap):=Ko.out.c1;by_cases q:0 < lo.length
  ·have f1:decide ((0:Int) < (lo.length:Int))=true:=az (by omega)
   have f2:decide (0 < lo.length)=true:=az q;have HR:=V (show uI (kL l1 l2 res) lo asks=(.more,⟨kL l1 l2 res,lo,asks⟩)by unfold uI;rw [if_pos q]);clear q;go_wp2_with fail;refine(tB _).mono ?_;rintro e w6 ⟨rfl,hb⟩;replace HX:=V (HX.out.below hb HX.out.lt);replace Ko:=V (Ko.out.below hb);replace HT:=V (HT.out.below hb);clear hb d1 c1;obtain⟨⟨x0,x1,x2,x3⟩,z0,z1,z2,z3⟩:=HX.out.four;go_wp2_with fail;refine aN (eu rfl _ _ rfl (nG HX.out rfl 1 0 0 (.slice none 0 0))) rfl ?_;rw [HRE.out];exact fT.mk HR.out Ko.out HT.out (Ko.out.not HX.out (by omega) (by decide)) (dR.nil _ _) (fun g hg=>by simp [ey,Value.ownBlock]at hg) (by simp [ey,Value.ownBlock]) 1 0 0 rfl rfl rfl
  ·have f1:decide ((0:Int) < (lo.length:Int))=false:=aA (by omega)
   have f2:decide (0 < lo.length)=false:=aA q;have HR:=V (show uI (kL l1 l2 res) lo asks=(⟨3,0,0,kL l1 l2 res⟩,⟨kL l1 l2 res,lo,asks⟩)by unfold uI;rw [if_neg q]);clear q;obtain⟨av,cv,huv,-,LC⟩:=Ko.out.dX.slice;have c0:w5.cell? ⟨b,pre.length,none⟩=some (.slice av (kL l1 l2 res).length cv):=by rw [<- huv];exact Ko.out.c0
   have HV:=V (show ee 2 gg w5 (.slice av (kL l1 l2 res).length cv) (kL l1 l2 res)by rw [<- huv];exact Ko.out.dX.fD gh);have HW:=V HT.out.1.size;clear huv;go_wp2_with fail;refine(nS _ (kL l1 l2 res) w5 HV.out (CM l1 l2 res (by omega))).mono ?_;rintro e w6 ⟨vv,rfl,ho,hb⟩;obtain⟨a2,c2,rfl,-,-⟩:=ho.slice;have HO:=V ho;have HL:=V hb.size;have HN:=V (fun g (hg:ey (.slice a2 (kL l1 l2 res).length c2) g)=>show w5.heap.size <=g from(eo ho hg).1);have Pf:=V (fun g hg=>Ko.out.lt (g:=g) hg);have HXL:=V HX.out.lt;replace HX:=V (HX.out.below hb HX.out.lt);replace Ko:=V (Ko.out.below hb);replace HT:=V (HT.out.below hb);clear hb d1 c1 c0 ho;obtain⟨⟨x0,x1,x2,x3⟩,z0,z1,z2,z3⟩:=HX.out.four;go_wp2_with fail;refine aN (eu rfl _ _ rfl (nG HX.out rfl 3 0 0 (.slice a2 (kL l1 l2 res).length c2))) rfl ?_;rw [HRE.out];exact fT.mk HR.out Ko.out HT.out (Ko.out.not HX.out (by omega) (by decide)) (HO.out.lower HW.out) (fun g hg h=>by have:=HN.out g hg;have:=Pf.out g h;omega) (fun h=>by have:=HN.out _ h;have:=HXL.out;omega) 3 0 0 rfl rfl rfl
def II (ks:List Int) (w:World) (e:Ending) (w':World):Prop:=∃v,e= .returned v/\dR 3 1 eZ w' w.heap.size v ks/\Below w.heap.size w w'
def DT (T X bc q:Nat) (vp v1 v12 vl:Value) (w:World):Prop:=
 w.cell? ⟨T,0,none⟩=some vp/\w.cell? ⟨X,1,none⟩=some v1/\w.cell? ⟨X,12,none⟩=some v12/\w.cell? ⟨bc,q,none⟩=some vl
theorem DT.ext {T X bc q:Nat} {vp v1 v12 vl:Value} {w w':World} (h:DT T X bc q vp v1 v12 vl w) (he:Ext w w'):DT T X bc q vp v1 v12 vl w':=⟨he.1 _ _ h.1,he.1 _ _ h.2.1,he.1 _ _ h.2.2.1,he.1 _ _ h.2.2.2⟩
theorem dS.uF {B:Nat} {v:Value} {w0 w w':World} {t:TypeId} {k n:Nat} {xs:List Value} (h:Below w0.heap.size w0 w) (ho:w.ownsRow B t k v n xs) (hB:w0.heap.size <=B) (hk:dS (ey v) w w'):Below w0.heap.size w0 w':=
 h.trans (hk.below h.size (fun i hi=>by have:=(eo ho hi).1;omega))
theorem Ax (w:World) (FX:Nat ->Bool) (X:Nat) (iv:qA) (m:ew) (h:jk w FX X iv m) (k:Nat) (c:gN) (ty:gy) (hc:m.eh[k]?=some c) (f:Int) (hf:f=((m.imports.length+k:Nat):Int)) (hty:oo m f ty) (hk:m.imports.length+m.funcs.length <=100000) (Mt:k <=100000) (hl:ty.params.length+c.locals.length <=100000):
  Calls prog 37 #[.pointer (some ⟨X,0,none⟩), .int .i64 f] w (II (ty.params++c.locals) w):=by
 have Lg:=(aL.1 hc).1;have KV:=V h;have HC:=V hc;have HF:=V hf;have HIM:=V (show mA m f=false by rw [hf];simp [mA];omega);have hty2:=qR w FX X iv m h ty f hty hk;clear h hc hf hty;go_enter func37,ntmps37;go_wp2_with fail;refine hty2.mono ?_;clear hty2;rintro e w2 ⟨u1,u2,rfl,h1,h2,hb⟩;obtain⟨ap,cp,rfl,-,hcp⟩:=h1.sl;obtain⟨ar,cr,rfl,-,-⟩:=h2.sl;have HP:=V (h1.ext (vM FX w2));have HB:=V (hb.alloc hb.size (.cells #[.slice ap ty.params.length cp, .slice ar ty.results.length cr] 109));have HT:=V (eE.new w2 #[.slice ap ty.params.length cp, .slice ar ty.results.length cr] 109);replace HP:=V (HP.out.ext (Ext.dV ((an w2.heap.size w2).alloc (ag _) (.cells #[.slice ap ty.params.length cp, .slice ar ty.results.length cr] 109))));clear h1 h2 hb;go_wp2_with fail;generalize w2.alloc (.cells #[.slice ap ty.params.length cp, .slice ar ty.results.length cr] 109)=w3 at HP HB HT⊢;refine(mR w3 FX X iv m (KV.out.below HB.out) f).mono ?_;rintro e w4 ⟨rfl,hb⟩;rw [HIM.out];replace HT:=V (HT.out.below hb HT.out.lt).drew;replace HP:=V (HP.out.ext (Ext.dV hb));replace HB:=V (HB.out.trans (hb.mono HB.out.size)).drew;clear hb;have K8:=KV.out.below HB.out;obtain⟨b,off,cap,u,Mz,K7,Mr,Lb,KH,hi⟩:=ea.at K8.mod.2.2.2.2.2.2.1 HC.out;obtain⟨ai,ci,h1,-,hcim⟩:=K8.is.2.1.sl;obtain⟨al,cl,hle,-,hclm⟩:=hi.1.1.sl;have x1:w4.drew.cell? ⟨X,1,none⟩=some (.slice ai m.imports.length ci):=by rw [<- h1];exact K8.kk.cell 1
 have x12:w4.drew.cell? ⟨X,12,none⟩=some (.slice (some ⟨b,off,none⟩) m.eh.length cap):=by rw [<- Mz];exact K8.kk.cell 12
 have y1:w4.drew.cell? ⟨b,off+k*2,none⟩=some (.slice al c.locals.length cl):=by
  have:=(fX (KH 0 _ rfl)).2;rw [<- hle];exact this
 have HL:=V (show ee 1 eZ w4.drew (.slice al c.locals.length cl) c.locals by rw [<- hle];exact hi.1.1.ext (vM FX _));replace HP:=V (show ee 1 eZ w4.drew (.slice ap ty.params.length cp) ty.params from HP.out.ext (Ext.dV (an _ _).drew));have hS:DT w2.heap.size X b (off+k*2) (.slice ap ty.params.length cp) (.slice ai m.imports.length ci) (.slice (some ⟨b,off,none⟩) m.eh.length cap) (.slice al c.locals.length cl) w4.drew:=⟨HT.out.two.1,x1,x12,y1⟩;clear K8 KH hi Mz h1 hle x1 x12 y1 Lb;have HFF:=HF.out;subst HFF;go_wp2_with fail;refine ed (DT w2.heap.size X b (off+k*2) (.slice ap ty.params.length cp) (.slice ai m.imports.length ci) (.slice (some ⟨b,off,none⟩) m.eh.length cap) (.slice al c.locals.length cl)) ((1,true)::(2,true)::up 4 16 ((0,false)::(3,false)::(20,false)::(21,true)::[])) (by kernel_rfl) (by kernel_rfl) hS ?_;have HS:=V hS;clear hS;generalize w4.drew=w5 at HT HB HS HL HP⊢;iterate 18 (first | (apply sk rfl rfl;simp only [pt]) | (apply dT rfl rfl rfl;·(rintro w' ⟨t0,t1,t2,t3⟩;go_wp2;exact⟨rfl,rfl,rfl⟩)))
 refine dZ rfl rfl ?_;have Mv:=(an w5.heap.size w5).alloc (ag _) (.cells #[] 3);have QF:=V Mv;clear Mv;go_wp2_with fail;refine⟨HS.out.ext (Ext.dV QF.out),?_⟩;refine dZ rfl rfl ?_;have HO:=V (dR.empty (α:=Int) (t:=3) (k:=1) (enc:=eZ) w5);have HP2:=V (HP.out.ext (Ext.dV QF.out));have Lf:=QF.out.size;go_wp2_with (first | (at_builtin;refine lN (w5.alloc (.cells #[] 3)) rfl _ _ rfl rfl w5.heap.size (.slice (some ⟨w5.heap.size,0,none⟩) 0 0) [] rfl HO.out _ ty.params rfl HP2.out (by simp only [aM];omega) Lf ?_));intro v6 w6 ho OM hs6;have Nk:Below w5.heap.size w5 w6:=dS.uF QF.out HO.out (ag _) OM;have HO6:=V (show dR 3 1 eZ w6 w5.heap.size v6 ty.params from ho);have HB6:=V Nk;clear ho OM hs6 Nk;obtain⟨a6,c6,rfl,-,-⟩:=HO6.out.slice;go_wp2_with fail;refine⟨HS.out.ext (Ext.dV HB6.out),?_⟩;refine dZ rfl rfl ?_;have PQ:=V (HL.out.ext (Ext.dV HB6.out));have hsz6:=HB6.out.size;go_wp2_with (first | (at_builtin;refine lN w6 rfl _ _ rfl rfl w5.heap.size (.slice a6 ty.params.length c6) ty.params rfl HO6.out _ c.locals rfl PQ.out (by omega) hsz6 ?_));intro v7 w7 ho hk7 hs7;have HB7:=V (dS.uF HB6.out HO6.out (ag _) hk7);have HO7:=V ho;clear ho hk7 hs7;go_wp2_with fail;refine⟨HS.out.ext (Ext.dV HB7.out),?_⟩;iterate 1 (first | (apply sk rfl rfl;simp only [pt]) | (apply dT rfl rfl rfl;·(rintro w' ⟨t0,t1,t2,t3⟩;go_wp2;exact⟨rfl,rfl,rfl⟩)))
 refine eH ?_;refine aD ?_;go_wp2_with fail;go_ret;exact⟨_,rfl,HO7.out.lower HB.out.size,HB.out.trans (HB7.out.mono HB.out.size)⟩
theorem Fh {w:World} {B:Nat} {v:Value} {ks:List Int} (h:dR 3 1 eZ w B v ks) (n:Nat) (hn:n <=ks.length):
  ∃a cap dp,v= .slice a ks.length cap/\cap <=9223372036854775807/\(∀wx,(Instr.slice 25 (.slice a ks.length cap) (some (.int .i64 n)) none none).run prog wx= .ok (.slice dp (ks.length - n) (cap - n)) wx)/\
   ∀(w':World) (B':Nat),dR 3 1 eZ w' B' (.slice a ks.length cap) ks ->ee 1 eZ w' (.slice dp (ks.length - n) (cap - n)) (ks.drop n):=by
 have hi:=h.fD fp;obtain⟨a,cap,rfl,h1,h2,-⟩:=hi;by_cases q:n < ks.length
 ·obtain⟨g,KE,cur,hv,-,hg,-⟩:=h.open (by intro e;rw [e]at q;simp at q)
  injection hv with e1 _ e2;subst e1 e2;refine⟨_,cap,some ⟨g,n,none⟩,rfl,by simpa [maxLen] using h2,fun wx=>kg g _ cap n q h1 wx,fun w' B' h'=>⟨some ⟨g,n,none⟩,cap - n,by rw [bm],by rw [bm];omega,by omega,fun i x hx=>?_⟩⟩;obtain⟨a',KE,O5,_,_,h3⟩:=h'.fD fp;injection O5 with e3 _ e4;subst e3 e4;rw [List.getElem?_drop]at hx;obtain⟨b,off,he,Kq,hc⟩:=h3 (n+i) x hx;injection he with he;injection he with e3 e4;subst e3 e4;refine⟨g,n,rfl,Kq,fun j u hu=>?_⟩;have:=hc j u hu;rw [<- this]
  congr 2
  omega
 ·obtain rfl:n=ks.length:=by omega
  have ha:a=none ->cap=0:=by
   intro e;obtain⟨_,hv | ⟨g,KE,cur,hv,-⟩⟩:=h
   ·have:=hv.1
    injection this
   ·rw [e]at hv
    injection hv with e1;cases e1
  obtain⟨dp,hr⟩:=oK a ks.length cap h1 ha;refine⟨a,cap,dp,rfl,by simpa [maxLen] using h2,fun wx=>by rw [hr wx,Nat.sub_self],fun w' B' h'=>⟨dp,cap - ks.length,by simp,by simp,by omega,?_⟩⟩;simp
def zv (k:Int):fb:=⟨k,0⟩
def qT (ks:List Int) (s:gI) (f:Int) (args:List fb):jm × gI:=
 if 32 <=s.ef.length then(.full,s)else(.more,⟨s.dX,s.ef++[⟨f,0,args++(ks.drop args.length).map zv,s.dX.length,[]⟩],s.asks⟩)
def Jm (args:List fb) (kv:Value) (ks rest:List Int) (w2 w':World) (v:Value) (i:Nat):Prop:=i <=rest.length/\dR 3 1 eZ w' 0 kv ks/\dR 42 2 gg w' w2.heap.size v (args++(rest.take i).map zv)/\Below w2.heap.size w2 w'
theorem Dq (w:World) (FX:Nat ->Bool) (X b:Nat) (iv:qA) (m:ew) (pre post:List Value) (t:TypeId) (v:rJ) (s:gI) (k:Nat) (c:gN) (ty:gy) (fn:Int) (args:List fb) (va:Value)
  (KI:fS w b pre post t v s) (K8:jk w FX X iv m) (hc:m.eh[k]?=some c) (hf:fn=((m.imports.length+k:Nat):Int)) (hty:oo m fn ty) (hk:m.imports.length+m.funcs.length <=100000) (Mt:k <=100000) (hl:ty.params.length+c.locals.length <=100000)
  (ha:ee 2 gg w va args) (MB:args.length <=(ty.params++c.locals).length) (hn:s.dX.length <=50000) (Kk:s.ef.length <=50000):
  Calls prog 11 #[.pointer (some ⟨X,0,none⟩), .pointer (some ⟨b,pre.length,none⟩), .int .i64 fn,va] w (fT b pre post t v (qT (ty.params++c.locals) s fn args) w):=by
 obtain⟨dX,ef,asks⟩:=s;obtain⟨uv,uf,us⟩:=v;obtain⟨av,cv,huv,-,Mr⟩:=KI.dX.slice;obtain⟨af,cf,huf,-,hcfm⟩:=KI.ef.slice;have hzl:(ef.zip us).length=ef.length:=by rw [bI,KI.rows.len,bY]
 simp only at huv huf hn Kk;rw [hzl]at huf;subst huv huf;obtain⟨aa,ca,rfl,-,hcam⟩:=id ha;unfold maxLen at hcam;have KK:=(an w.heap.size w).alloc (ag _) (.cells #[.int .i64 0, .int .i64 0, .int .i64 0, .slice none 0 0] 32);have HX:=V (eE.new w #[.int .i64 0, .int .i64 0, .int .i64 0, .slice none 0 0] 32);have Qf:=V KI;have Ko:=V (KI.below KK);have KV:=V (K8.below KK);have HA:=V (ha.ext (Ext.dV KK));have HT:=V (kJ.dV (v:=⟨.slice av dX.length cv, .slice af ef.length cf,us⟩) (b:=b) KK);have HB:=V KK;have HC:=V hc;have HF:=V hf;have HTY:=V hty;have Lb:=KI.kk.lt;have c0:World.cell? _ ⟨b,pre.length,none⟩=some (.slice av dX.length cv):=Ko.out.c0;have c1:World.cell? _ ⟨b,pre.length+1,none⟩=some (.slice af ef.length cf):=Ko.out.c1;clear KI K8 ha KK hc hf hty hzl;by_cases q:32 <=ef.length
 ·have f1:decide ((32:Int) <=(ef.length:Int))=true:=az (by omega)
  have f2:decide (32 <=ef.length)=true:=az q;have HR:=V (show qT (ty.params++c.locals) ⟨dX,ef,asks⟩ fn args=(.full,⟨dX,ef,asks⟩)by unfold qT;rw [if_pos q]);clear q;go_enter func11,ntmps11;go_wp2_with fail;refine(zI _).mono ?_;rintro e w2 ⟨rfl,hb⟩;replace HX:=V (HX.out.below hb HX.out.lt);replace Ko:=V (Ko.out.below hb);replace HT:=V (HT.out.below hb);clear hb c0 c1;obtain⟨⟨x0,x1,x2,x3⟩,z0,z1,z2,z3⟩:=HX.out.four;go_wp2_with fail;refine aN (eu rfl _ _ rfl (nG HX.out rfl 5 0 0 (.slice none 0 0))) rfl ?_;exact fT.mk HR.out Ko.out HT.out Qf.out.xz (dR.nil _ _) (fun g hg=>by simp [ey,Value.ownBlock]at hg) (by simp [ey,Value.ownBlock]) 5 0 0 rfl rfl rfl
 ·have f1:decide ((32:Int) <=(ef.length:Int))=false:=aA (by omega)
  have f2:decide (32 <=ef.length)=false:=aA q;obtain⟨rest,Li⟩:∃rest,(ty.params++c.locals).drop args.length=rest:=⟨_,rfl⟩;have hrl:rest.length <=100000:=by rw [<- Li,bm,ah];omega
  have HR:=V (show qT (ty.params++c.locals) ⟨dX,ef,asks⟩ fn args=(.more,⟨dX,ef++[⟨fn,0,args++rest.map zv,dX.length,[]⟩],asks⟩)by unfold qT;rw [if_neg q,Li]);have hargl:args.length <=100000:=by rw [ah]at MB;omega
  have HRS:=V Li;have MM:=HR;clear q Li HR;go_enter func11,ntmps11;go_wp2_with fail;generalize(w.alloc (.cells #[.int .i64 0, .int .i64 0, .int .i64 0, .slice none 0 0] 32))=w2 at HX Ko KV HA HT HB c0 c1⊢;refine(nS _ args w2 HA.out (by omega)).mono ?_;rintro e w3 ⟨lv,rfl,QJ,hb⟩;obtain⟨a3,c3,rfl,-,-⟩:=QJ.slice;have OA:=V QJ;have QG:=V hb;clear QJ hb f1 f2;go_wp2_with fail;refine(Ax w3 FX X iv m (KV.out.below QG.out) k c ty HC.out fn HF.out HTY.out hk Mt hl).mono ?_;rintro e w4 ⟨kv,rfl,hko,hb⟩;obtain⟨ks,hks⟩:∃ks,ty.params++c.locals=ks:=⟨_,rfl⟩;have HRK:=V HRS.out;rw [hks]at hko MB HRK;obtain⟨ak,ck,dp,rfl,hckm,Kx,hrk⟩:=Fh hko args.length MB;have hrl2:ks.length - args.length=rest.length:=by rw [<- HRK.out,bm]
  clear hks;rw [hrl2]at Kx hrk;have HKO:=V (hko.lower (bG w3.heap.size));rw [HRK.out]at hrk;have HLO4:=V (OA.out.below hb);have HB4:=V (QG.out.trans (hb.mono QG.out.size));have HRK:=V hrk;clear hko hb hrk hrl2 MB;go_wp2_with fail;clear Kx;refine ez (fun a' w'=>∃(i:Nat) (v:Value),a'=fr (.pointer (some ⟨X,0,none⟩):: .pointer (some ⟨b,pre.length,none⟩):: .int .i64 fn:: .slice aa args.length ca::gs a' 4 4 (.pointer (some ⟨w.heap.size,0,none⟩)::v::gs a' 10 16 (.slice dp rest.length (ck - args.length):: .int .i64 rest.length:: .int .i64 i::gs a' 29 27 [])))/\Jm args (.slice ak ks.length ck) ks rest w2 w' v i) (fun a' _=>(rest.length - (intOf (a'.tmps.getD 28 undef)).toNat)) ?_ ?_
  ·exact⟨0,_,rfl,bG _,HKO.out,by simpa using HLO4.out,HB4.out⟩
  ·skip
   rintro R a' w1 ⟨i,v,Kk,hJ⟩ HR;dsimp only [fr,gs]at Kk;generalize slot a'=f at Kk;subst Kk;obtain⟨hi,hks,QJ,hb⟩:=hJ;have HKS:=V hks;have HRW:=V (HRK.out w1 0 hks);have OA:=V QJ;have HB5:=V hb;obtain⟨a5,c5,Ls,-,-⟩:=QJ.slice;have N7:(args++(rest.take i).map zv).length=args.length+i:=by simp;omega
   rw [N7]at Ls;subst Ls;clear QJ hb hks;by_cases q:i < rest.length
   ·obtain⟨x,hx⟩:∃x,rest[i]?=some x:=⟨_,aq q⟩
    obtain⟨bk,offk,capk,Ls,-,-,hbkl,KH⟩:=ee.at HRW.out hx;injection Ls with e1 e2 e3;subst e1;have y0:w1.cell? ⟨bk,offk+i,none⟩=some (.int .i64 x):=by
     have:=KH 0 _ rfl
     rwa [bj,aK]at this
    have HXI:=V hx;have Lf:=HB5.out.size;clear hx KH e2 e3 hbkl;go_wp2_with (first | (at_builtin;refine eQ w1 rfl _ _ 30 rfl _ 16 (by kernel_rfl) kZ rfl (by decide) (by decide) w2.heap.size (.slice a5 (args.length+i) c5) (args++(rest.take i).map zv) rfl OA.out (zv x) _ rfl rfl (lI _) rfl (by rw [N7];omega) Lf ?_));intro v6 w6 ho OM hs6;have HB6:=V (dS.uF HB5.out OA.out (ag _) OM);have HK6:=V (HKS.out.keeps OM (fun g hg h=>dR.ne HKS.out OA.out (by decide) g hg h));have HO6:=V ho;clear ho OM hs6;go_wp2_with fail;refine HR.out _ _ ⟨i+1,v6,rfl,by omega,HK6.out,?_,HB6.out⟩ ?_
    ·have h:=HO6.out
     rw [aQ,HXI.out];simpa using h
    ·simp [intOf]
     omega
   ·obtain rfl:i=rest.length:=by omega
    obtain⟨L,hL⟩:∃L,args++(rest.take rest.length).map zv=L:=⟨_,rfl⟩;have MJ:=V (show qT (ty.params++c.locals) ⟨dX,ef,asks⟩ fn args=(.more,⟨dX,ef++[⟨fn,0,L,dX.length,[]⟩],asks⟩)by rw [MM.out, <- hL,aU]);rw [hL]at OA N7;rw [<- N7]at OA⊢;have HOL:=V (fun g (hg:ey (.slice a5 L.length c5) g)=>(eo OA.out hg).1);have HLT:=V (fun g hg=>Ko.out.lt (g:=g) hg);have Nk:=HB5.out.drew;have HX7:=V (HX.out.below Nk HX.out.lt);have OJ:=V (Ko.out.below Nk);have HT7:=V (HT.out.below Nk);have HL7:=V (show dR 42 2 gg w1.drew 0 (.slice a5 L.length c5) L from OA.out.lower (bG _));have hS:w1.drew.cell? ⟨b,pre.length+1,none⟩=some (.slice af ef.length cf)/\w1.drew.cell? ⟨b,pre.length,none⟩=some (.slice av dX.length cv):=⟨OJ.out.c1,OJ.out.c0⟩;have KA:=V HT.out.1.size;clear hL N7 Nk c0 c1 HR HRW HKS HB5 OA;go_wp2_with fail;refine eP (fun w'=>w'.cell? ⟨b,pre.length+1,none⟩=some (.slice af ef.length cf)/\w'.cell? ⟨b,pre.length,none⟩=some (.slice av dX.length cv)) 17 (up 0 13 ((13,false)::(14,false)::(15,true)::(16,true)::[])) (by kernel_rfl) (by kernel_rfl) hS ?_;clear hS;generalize w1.drew=w7 at HX7 OJ HT7 HL7⊢;iterate 13 (first | (apply sk rfl rfl;simp only [pt]) | (apply dT rfl rfl rfl;·(rintro w' ⟨t0,t1⟩;go_wp2;exact⟨rfl,rfl,rfl⟩)))
    refine dZ rfl rfl ?_;go_wp2_with fail;refine⟨⟨(OJ.out.alloc _).c1,(OJ.out.alloc _).c0⟩,?_⟩;refine dZ rfl rfl ?_;have hzl:(ef.zip us).length=ef.length:=by rw [bI,OJ.out.rows.len,bY]
    have HZL:=V hzl;clear hzl;go_wp2_with (first | (at_builtin;refine eQ w7 rfl _ _ 35 rfl _ 72 (by kernel_rfl) mJ rfl (by decide) (by decide) 0 (.slice af ef.length cf) (ef.zip us) rfl OJ.out.ef ((⟨fn,0,L,dX.length,[]⟩:eW),((.slice a5 L.length c5:Value),(.slice none 0 0:Value))) _ rfl rfl (by intro z hz;simp only [lS,bJ,bO,cS]at hz;rcases hz with rfl | rfl | rfl | rfl | rfl <;>rfl) rfl (by rw [HZL.out];omega) (bG _) ?_));intro v8 w8 ho hk hs;obtain⟨a8,c8,Ls,-,-⟩:=ho.slice;rw [ah,HZL.out,aB]at Ls;subst Ls;have KD:=OJ.out.Bz hk;have HP:=V (OJ.out.Cp (f:=⟨fn,0,L,dX.length,[]⟩) (u:=((.slice a5 L.length c5:Value),(.slice none 0 0:Value))) ⟨HL7.out,dR.nil _ _⟩
     (fun g hg h=>hg.elim (fun hg=>by have:=HOL.out g hg;have:=HLT.out g h;omega) (fun hg=>by simp [ey,Value.ownBlock]at hg))
     (fun g hg h=>hg.elim (fun hg=>by have:=HOL.out g hg;have:=HLT.out g (.inr (.inr (.inl h)));omega) (fun hg=>by simp [ey,Value.ownBlock]at hg)) ho hk hs)
    have c1:w8.cell? ⟨b,pre.length+1,none⟩=some (.slice af ef.length cf):=(KD.1.cell _).trans (yB _ _ _ _);have c0:w8.cell? ⟨b,pre.length,none⟩=some (.slice av dX.length cv):=(KD.1.cell _).trans (re _ _ _ _);have z1:=KD.1.free (pre.length+1);have HX8:=V (HX7.out.keeps hk (fun hg=>dR.gw OJ.out.ef HX7.out (by decide) _ hg rfl));clear KD hk hs ho;go_wp2_with fail;refine⟨⟨c1,c0⟩,?_⟩;iterate 2 (first | (apply sk rfl rfl;simp only [pt]) | (apply dT rfl rfl rfl;·(rintro w' ⟨t0,t1⟩;go_wp2;exact⟨rfl,rfl,rfl⟩)))
    refine fI rfl rfl ?_;go_wp2_with fail;refine⟨trivial,?_⟩;refine aD ?_;clear c0 c1 z1;obtain⟨h1,h2,h3⟩:=HP.out;have HX9:=V (HX8.out.keeps (ep w8 b (pre.length+1) (.slice a8 (ef.length+1) c8)) (by omega));have HST9:=V h1;have HT9:=V (show kJ _ ⟨.slice av dX.length cv, .slice a8 (ef.length+1) c8,us++[((.slice a5 L.length c5:Value),(.slice none 0 0:Value))]⟩ b w _ from⟨HT7.out.1.trans h2 (fun g hg=> .inl hg),fun g hg=>by
     rcases h3 g hg with h | (h | h) | h
     ·exact .inl h
     ·have:=HOL.out g h
      have:=KA.out;exact .inr (by omega)
     ·simp [ey,Value.ownBlock]at h
     ·have:=HT7.out.1.size
      exact .inr (by omega)⟩)
    clear h1 h2 h3 HP;generalize w8.setCell ⟨b,pre.length+1,none⟩ (.slice a8 (ef.length+1) c8)=w9 at HX9 HST9 HT9⊢;go_wp2_with fail;refine(tB _).mono ?_;rintro e w10 ⟨rfl,hb⟩;replace HX9:=V (HX9.out.below hb HX9.out.lt);replace HST9:=V (HST9.out.below hb);replace HT9:=V (HT9.out.below hb);clear hb;obtain⟨⟨x0,x1,x2,x3⟩,z0,z1,z2,z3⟩:=HX9.out.four;go_wp2_with fail;refine aN (eu rfl _ _ rfl (nG HX9.out rfl 1 0 0 (.slice none 0 0))) rfl ?_;exact fT.mk MJ.out HST9.out HT9.out (HST9.out.not HX9.out (by omega) (by decide)) (dR.nil _ _) (fun g hg=>by simp [ey,Value.ownBlock]at hg) (by simp [ey,Value.ownBlock]) 1 0 0 rfl rfl rfl
theorem fT.pass {w w3 w4:World} {b R:Nat} {pre post:List Value} {t:TypeId} {v v':rJ} {r:jm × gI} {s:gI} {vv:Value} {xs:Array Value} (hb:Below w.heap.size w w3) (hX:eE w3 R xs 32) (hR:w.heap.size <=R) (hRb:R≠b) (h3:fS w3 b pre post t v s)
  (hs:fS w4 b pre post t v' r.2) (ht:kJ v v' b w3 w4) (ho:dR 42 2 gg w4 w3.heap.size vv r.1.dX) (hn:∀g,ey vv g ->¬ v'.own b g) (a1 a2 a3:Int) (h1:r.1.kind=a1) (h2:r.1.po=a2) (h4:r.1.fn=a3):
  fT b pre post t v r w (.returned (.agg #[.int .i64 a1, .int .i64 a2, .int .i64 a3,vv])) (lk w4 R a1 a2 a3 vv):=by
 subst h1 h2 h4;have Km:=gu w4 R r.1.kind r.1.po r.1.fn vv;have hX4:=hX.keeps ht.1 (h3.not hX hRb (by decide));have hRn:¬ v'.own b R:=hs.not hX4 hRb (by decide);have hRl:=hX.lt;refine⟨v',vv,rfl,hs.keeps Km (fun g hg e=>hRn (e▸hg)),⟨((dS.dV hb).trans ht.1 (fun g hg=> .inl hg)).trans Km (fun i hi=> .inr (by omega)),fun g hg=>(ht.2 g hg).imp id (fun h=>aW hb.size h)⟩,?_,hn⟩;exact(ho.keeps Km (fun g hg e=>by have:=(eo ho hg).1;omega)).lower hb.size
theorem jc {w2:World} {R:Nat} {xs:Array Value} (hx:eE w2 R xs 32) (hs:xs.size=4) (a b c:Int) (v:Value):
  (loadVar 32 ⟨R,0,none⟩).run prog (lk w2 R a b c v)= .ok (.agg #[.int .i64 a, .int .i64 b, .int .i64 c,v]) (lk w2 R a b c v):=by
 obtain⟨x0,x1,x2,x3,rfl⟩:∃x0 x1 x2 x3,xs=#[x0,x1,x2,x3]:=by
  match xs,hs with
  | ⟨[x0,x1,x2,x3]⟩,_=>exact⟨x0,x1,x2,x3,rfl⟩
 exact(hx.rS _ _ _ _).pE
theorem wU (w:World) (k n:Int):ee 2 gg (w.alloc (.cells #[.int .i64 k, .int .i64 n] 42)) (.slice (some ⟨w.heap.size,0,none⟩) 1 1) [⟨k,n⟩]:=by
 have hx:=eE.new w #[.int .i64 k, .int .i64 n] 42;have ho:dR 42 2 gg (w.alloc (.cells #[.int .i64 k, .int .i64 n] 42)) w.heap.size (.slice (some ⟨w.heap.size,0,none⟩) 1 1) [⟨k,n⟩]:=
  ⟨by simp [gg], .inr ⟨w.heap.size,1,_,rfl,ag _,hx,by simp,by simp [maxLen],by simp,by simp [gg]⟩⟩
 exact ho.fD gh
theorem IB (w:World) (D X b g J cap:Nat) (pre post:List Value) (t:TypeId) (uv:Value) (us:List (Value × Value)) (u:Value × Value) (dX:List fb) (lo:List eW) (f:eW) (asks:Int) (a:Int) (bb:Int) (al:Option Addr) (nl cl:Nat)
  (KI:fS w b pre post t ⟨uv, .slice (some ⟨g,0,none⟩) (lo.length+1) cap,us++[u]⟩ ⟨dX,lo++[f],asks⟩) (hd:kf w D X b pre.length g (lo.length*5) J):
  Calls prog 23 #[.pointer (some ⟨D,0,none⟩), .agg #[.int .i64 0, .int .i64 a, .int .i64 bb, .slice al nl cl]] w (fT b pre post t ⟨uv, .slice (some ⟨g,0,none⟩) (lo.length+1) cap,us++[u]⟩ (jm.pF 1,⟨dX,lo++[f],asks⟩) w):=by
 have Kw:=(an w.heap.size w).alloc (ag _) (.cells #[.int .i64 0, .int .i64 a, .int .i64 bb, .slice al nl cl] 27);have Kl:=Kw.alloc Kw.size (.cells #[.int .i64 0, .int .i64 0, .int .i64 0, .slice none 0 0] 32);have No:=(eE.new w #[.int .i64 0, .int .i64 a, .int .i64 bb, .slice al nl cl] 27).alloc (.cells #[.int .i64 0, .int .i64 0, .int .i64 0, .slice none 0 0] 32);have Mh:=eE.new (w.alloc (.cells #[.int .i64 0, .int .i64 a, .int .i64 bb, .slice al nl cl] 27)) #[.int .i64 0, .int .i64 0, .int .i64 0, .slice none 0 0] 32;rw [aE]at Mh;have Lb:=KI.kk.lt;have HI:=V No;have HX:=V Mh;have HB:=V Kl;have Ko:=V (KI.below Kl);have HD:=V (hd.below Kl);clear Kw Kl No Mh KI hd;go_enter func23,ntmps23;go_wp2_with fail;obtain⟨w2,ME⟩:∃w2,w2=(w.alloc (.cells #[.int .i64 0, .int .i64 a, .int .i64 bb, .slice al nl cl] 27)).alloc (.cells #[.int .i64 0, .int .i64 0, .int .i64 0, .slice none 0 0] 32):=⟨_,rfl⟩;rw [<- ME]at HI HX HB Ko HD⊢;have HSZ:=V (show w2.heap.size=w.heap.size+1+1 by rw [ME];simp);clear ME;refine(zF _ 1).mono ?_;rintro e w3 ⟨rfl,hb⟩;replace HX:=V (HX.out.below hb HX.out.lt);replace HB:=V (HB.out.trans (hb.mono HB.out.size));replace Ko:=V (Ko.out.below hb);replace HD:=V (HD.out.below hb);clear hb;obtain⟨⟨x0,x1,x2,x3⟩,z0,z1,z2,z3⟩:=HX.out.four;go_wp2_with fail;refine aN (eu rfl _ _ rfl (jc HX.out rfl 4 1 0 (.slice none 0 0))) rfl ?_;exact fT.pass HB.out HX.out (by omega) (by omega) Ko.out Ko.out (kJ.refl _ _ _) (dR.nil _ _) (fun g hg=>by simp [ey,Value.ownBlock]at hg) 4 1 0 rfl rfl rfl
theorem JX (w:World) (D X b g J cap:Nat) (pre post:List Value) (t:TypeId) (uv:Value) (us:List (Value × Value)) (u:Value × Value) (dX:List fb) (lo:List eW) (f:eW) (asks:Int) (a:Int) (bb:Int) (al:Option Addr) (nl cl:Nat)
  (KI:fS w b pre post t ⟨uv, .slice (some ⟨g,0,none⟩) (lo.length+1) cap,us++[u]⟩ ⟨dX,lo++[f],asks⟩) (hd:kf w D X b pre.length g (lo.length*5) J) (hn:dX.length <=50000) (N0: -1 <=f.pc/\f.pc <=1000000):
  Calls prog 23 #[.pointer (some ⟨D,0,none⟩), .agg #[.int .i64 1, .int .i64 a, .int .i64 bb, .slice al nl cl]] w (fT b pre post t ⟨uv, .slice (some ⟨g,0,none⟩) (lo.length+1) cap,us++[u]⟩ (kC dX [] ⟨dX,lo++[f],asks⟩ lo f) w):=by
 have Kw:=(an w.heap.size w).alloc (ag _) (.cells #[.int .i64 1, .int .i64 a, .int .i64 bb, .slice al nl cl] 27);have Kl:=Kw.alloc Kw.size (.cells #[.int .i64 0, .int .i64 0, .int .i64 0, .slice none 0 0] 32);have No:=(eE.new w #[.int .i64 1, .int .i64 a, .int .i64 bb, .slice al nl cl] 27).alloc (.cells #[.int .i64 0, .int .i64 0, .int .i64 0, .slice none 0 0] 32);have Mh:=eE.new (w.alloc (.cells #[.int .i64 1, .int .i64 a, .int .i64 bb, .slice al nl cl] 27)) #[.int .i64 0, .int .i64 0, .int .i64 0, .slice none 0 0] 32;rw [aE]at Mh;have Lb:=KI.kk.lt;have HI:=V No;have HX:=V Mh;have HB:=V Kl;have Ko:=V (KI.below Kl);have HD:=V (hd.below Kl);clear Kw Kl No Mh KI hd;go_enter func23,ntmps23;go_wp2_with fail;obtain⟨w2,ME⟩:∃w2,w2=(w.alloc (.cells #[.int .i64 1, .int .i64 a, .int .i64 bb, .slice al nl cl] 27)).alloc (.cells #[.int .i64 0, .int .i64 0, .int .i64 0, .slice none 0 0] 32):=⟨_,rfl⟩;rw [<- ME]at HI HX HB Ko HD⊢;have HSZ:=V (show w2.heap.size=w.heap.size+1+1 by rw [ME];simp);clear ME;refine(qK _ D X b g J cap pre post t uv us u dX [] [] lo f asks _ 0 rfl (by rw [bW];exact Ko.out) HD.out (ee.nil _) (by simp;omega) N0).mono ?_;rw [bW];rintro e w4 ⟨v',vv,rfl,Mi,MO,LZ,N1⟩;obtain⟨r,hr⟩:∃r,(kC dX [] ⟨dX,lo++[f],asks⟩ lo f)=r:=⟨_,rfl⟩;rw [hr]at Mi LZ⊢;have MM:=V hr;obtain⟨Pg,Ph,rfl,-,-⟩:=LZ.slice;have Nj:=V (HX.out.keeps MO.1 (Ko.out.not HX.out (by omega) (by decide)));have OO:=V Mi;have PG:=V MO;have MI:=V LZ;have PH:=V N1;clear Mi MO LZ N1 hr;simp only [oc];obtain⟨⟨x0,x1,x2,x3⟩,z0,z1,z2,z3⟩:=Nj.out.four;go_wp2_with fail;refine aN (eu rfl _ _ rfl (jc Nj.out rfl r.1.kind r.1.po r.1.fn (.slice Pg r.1.dX.length Ph))) rfl ?_;rw [MM.out];exact fT.pass HB.out HX.out (by omega) (by omega) Ko.out OO.out PG.out MI.out PH.out _ _ _ rfl rfl rfl
theorem F9 (w:World) (D X b g J cap:Nat) (pre post:List Value) (t:TypeId) (uv:Value) (us:List (Value × Value)) (u:Value × Value) (dX:List fb) (lo:List eW) (f:eW) (asks:Int) (a:Int) (bb:Int) (al:Option Addr) (nl cl:Nat)
  (KI:fS w b pre post t ⟨uv, .slice (some ⟨g,0,none⟩) (lo.length+1) cap,us++[u]⟩ ⟨dX,lo++[f],asks⟩) (hd:kf w D X b pre.length g (lo.length*5) J) (hn:dX.length <=50000) (N0: -1 <=f.pc/\f.pc <=1000000):
  Calls prog 23 #[.pointer (some ⟨D,0,none⟩), .agg #[.int .i64 65, .int .i64 a, .int .i64 bb, .slice al nl cl]] w (fT b pre post t ⟨uv, .slice (some ⟨g,0,none⟩) (lo.length+1) cap,us++[u]⟩ (kC dX [⟨1,a⟩] ⟨dX,lo++[f],asks⟩ lo f) w):=by
 have Kw:=(an w.heap.size w).alloc (ag _) (.cells #[.int .i64 65, .int .i64 a, .int .i64 bb, .slice al nl cl] 27);have Kl:=Kw.alloc Kw.size (.cells #[.int .i64 0, .int .i64 0, .int .i64 0, .slice none 0 0] 32);have No:=(eE.new w #[.int .i64 65, .int .i64 a, .int .i64 bb, .slice al nl cl] 27).alloc (.cells #[.int .i64 0, .int .i64 0, .int .i64 0, .slice none 0 0] 32);have Mh:=eE.new (w.alloc (.cells #[.int .i64 65, .int .i64 a, .int .i64 bb, .slice al nl cl] 27)) #[.int .i64 0, .int .i64 0, .int .i64 0, .slice none 0 0] 32;rw [aE]at Mh;have Lb:=KI.kk.lt;have HI:=V No;have HX:=V Mh;have HB:=V Kl;have Ko:=V (KI.below Kl);have HD:=V (hd.below Kl);clear Kw Kl No Mh KI hd;have y1:=HI.out.cell 1;simp only [aG,aF,aT]at y1;go_enter func23,ntmps23;go_wp2_with fail;obtain⟨w2,ME⟩:∃w2,w2=(w.alloc (.cells #[.int .i64 65, .int .i64 a, .int .i64 bb, .slice al nl cl] 27)).alloc (.cells #[.int .i64 0, .int .i64 0, .int .i64 0, .slice none 0 0] 32):=⟨_,rfl⟩;rw [<- ME]at HI HX HB Ko HD⊢;have HSZ:=V (show w2.heap.size=w.heap.size+1+1 by rw [ME];simp);clear ME;clear y1;have hb:=(an w2.heap.size w2).alloc (ag _) (.cells #[.int .i64 1, .int .i64 a] 42);have HP:=V (wU w2 1 a);replace HX:=V (HX.out.below hb HX.out.lt);replace HB:=V (HB.out.trans (hb.mono HB.out.size));replace Ko:=V (Ko.out.below hb);replace HD:=V (HD.out.below hb);clear hb;rw [HSZ.out]at HP;refine(qK _ D X b g J cap pre post t uv us u dX [] [⟨1,a⟩] lo f asks _ 0 rfl (by rw [bW];exact Ko.out) HD.out HP.out (by simp;omega) N0).mono ?_;rw [bW];rintro e w4 ⟨v',vv,rfl,Mi,MO,LZ,N1⟩;obtain⟨r,hr⟩:∃r,(kC dX [⟨1,a⟩] ⟨dX,lo++[f],asks⟩ lo f)=r:=⟨_,rfl⟩;rw [hr]at Mi LZ⊢;have MM:=V hr;obtain⟨Pg,Ph,rfl,-,-⟩:=LZ.slice;have Nj:=V (HX.out.keeps MO.1 (Ko.out.not HX.out (by omega) (by decide)));have OO:=V Mi;have PG:=V MO;have MI:=V LZ;have PH:=V N1;clear Mi MO LZ N1 hr;simp only [oc];obtain⟨⟨x0,x1,x2,x3⟩,z0,z1,z2,z3⟩:=Nj.out.four;go_wp2_with fail;refine aN (eu rfl _ _ rfl (jc Nj.out rfl r.1.kind r.1.po r.1.fn (.slice Pg r.1.dX.length Ph))) rfl ?_;rw [MM.out];exact fT.pass HB.out HX.out (by omega) (by omega) Ko.out OO.out PG.out MI.out PH.out _ _ _ rfl rfl rfl
theorem Cx (w:World):Calls prog 42 #[.int .i64 1, .int .i64 5] w (jj (.agg #[.int .i64 1, .int .i64 5]) w):=by
 go_enter func42,ntmps42;go_wp2_with fail;exact aN (eu rfl _ _ rfl (eE.new w #[.int .i64 1, .int .i64 5] 42).ma) rfl ⟨rfl,(an _ _).alloc (ag _) _⟩
theorem Ai (w:World):Calls prog 139 #[.int .i64 1] w (jj (.int .i64 32) w):=by
 go_enter func139,ntmps139;go_wp2_with fail;go_ret;exact⟨rfl,an _ _⟩
theorem E9 (w:World):Calls prog 136 #[.agg #[.int .i64 1, .int .i64 3]] w (jj (.int .u64 3) w):=by
 go_enter func136,ntmps136;go_wp2_with fail;go_ret;exact⟨rfl,(an _ _).alloc (ag _) _⟩
theorem xY (w:World) (a b c d:Int):Below w.heap.size w ((w.alloc (.cells #[.int .i64 a, .int .i64 b] 42)).alloc (.cells #[.int .i64 c, .int .i64 d] 42))/\
  eE ((w.alloc (.cells #[.int .i64 a, .int .i64 b] 42)).alloc (.cells #[.int .i64 c, .int .i64 d] 42)) w.heap.size #[.int .i64 a, .int .i64 b] 42/\
  eE ((w.alloc (.cells #[.int .i64 a, .int .i64 b] 42)).alloc (.cells #[.int .i64 c, .int .i64 d] 42)) (w.heap.size+1) #[.int .i64 c, .int .i64 d] 42:=by
 have hb:=(an w.heap.size w).alloc (ag _) (.cells #[.int .i64 a, .int .i64 b] 42);refine⟨hb.alloc hb.size _,(eE.new w _ _).alloc _,?_⟩;have:=eE.new (w.alloc (.cells #[.int .i64 a, .int .i64 b] 42)) #[.int .i64 c, .int .i64 d] 42
 rwa [aE]at this
theorem Cl (w:World):Calls prog 144 #[.int .i64 106, .agg #[.int .i64 1, .int .i64 2], .agg #[.int .i64 1, .int .i64 3]] w (jj (.int .i64 5) w):=by
 obtain⟨KK,ha0,LL⟩:=xY w 1 2 1 3;go_enter func144,ntmps144;go_wp2_with fail;generalize(w.alloc (.cells #[.int .i64 1, .int .i64 2] 42)).alloc (.cells #[.int .i64 1, .int .i64 3] 42)=w1 at KK ha0 LL⊢;refine(Ai w1).mono ?_;rintro e w2 ⟨rfl,hb⟩;replace ha0:=ha0.below hb ha0.lt;replace LL:=LL.below hb LL.lt;replace KK:=KK.trans (hb.mono KK.size);clear hb;obtain⟨x0,x1,-,-⟩:=LL.two;go_wp2_with fail;clear x0 x1;refine(E9 w2).mono ?_;rintro e w3 ⟨rfl,hb⟩;replace ha0:=ha0.below hb ha0.lt;replace LL:=LL.below hb LL.lt;replace KK:=KK.trans (hb.mono KK.size);clear hb;obtain⟨x0,x1,-,-⟩:=LL.two;obtain⟨y0,y1,-,-⟩:=ha0.two;go_wp2_with fail;go_ret;exact⟨rfl,KK⟩
def A4 (X Y bl off:Nat) (w:World):Prop:=
 (w.cell? ⟨X,0,none⟩=some (.int .i64 1)/\w.cell? ⟨X,1,none⟩=some (.int .i64 2))/\(w.cell? ⟨Y,0,none⟩=some (.int .i64 1)/\w.cell? ⟨Y,1,none⟩=some (.int .i64 3))/\w.cell? ⟨bl,off,none⟩=some (.int .i64 1)/\w.cell? ⟨bl,off+1,none⟩=some (.int .i64 1)
theorem A4.below {X Y bl off:Nat} {w w':World} (h:A4 X Y bl off w) (hb:Below w.heap.size w w'):A4 X Y bl off w':=by
 obtain⟨⟨h1,h2⟩,⟨h3,h4⟩,h5,h6⟩:=h;have k:=(Ext.dV hb).1;exact⟨⟨k _ _ h1,k _ _ h2⟩,⟨k _ _ h3,k _ _ h4⟩,k _ _ h5,k _ _ h6⟩
theorem DU (w:World):Calls prog 88 #[.int .i64 106, .agg #[.int .i64 1, .int .i64 2], .agg #[.int .i64 1, .int .i64 3]] w (jj (.tuple #[.agg #[.int .i64 1, .int .i64 5], .int .i64 0]) w):=by
 obtain⟨KK,ha0,LL⟩:=xY w 1 2 1 3;have HB:=V (KK.alloc KK.size (.cells #[.int .i64 0, .int .i64 0] 42));have HA:=V (ha0.alloc (.cells #[.int .i64 0, .int .i64 0] 42));have HC:=V (LL.alloc (.cells #[.int .i64 0, .int .i64 0] 42));have hx:=eE.new ((w.alloc (.cells #[.int .i64 1, .int .i64 2] 42)).alloc (.cells #[.int .i64 1, .int .i64 3] 42)) #[.int .i64 0, .int .i64 0] 42;simp only [aE]at hx;have HX:=V hx;clear KK ha0 LL hx;go_enter func88,ntmps88;go_wp2_with fail;generalize((w.alloc (.cells #[.int .i64 1, .int .i64 2] 42)).alloc (.cells #[.int .i64 1, .int .i64 3] 42)).alloc (.cells #[.int .i64 0, .int .i64 0] 42)=w1 at HB HA HC HX⊢;refine(qs 106 w1 (w.heap.size+1+1) HX.out.lt).mono ?_;rintro e w2 ⟨kv,rfl,hl,hb⟩;have hk:eU 106=([1,1],1,true):=by decide+kernel
 rw [hk]at hl⊢;obtain⟨bl,off,cap,rfl,-,K7,-,Me⟩:=ee.at (i:=0) hl rfl;obtain⟨bl2,KM,Kn,he,-,-,-,La⟩:=ee.at (i:=1) hl rfl;injection he with Mc _ _;injection Mc with Mc;injection Mc with Mc Ml;subst Mc Ml;have k0:w2.cell? ⟨bl,off,none⟩=some (.int .i64 1):=(fX (Me 0 _ rfl)).2;have Lb:bl≠w.heap.size+1+1:=by
  have:=(fX (Me 0 _ rfl)).1;simpa using this
 have k1:w2.cell? ⟨bl,off+1,none⟩=some (.int .i64 1):=(fX (La 0 _ rfl)).2;replace HA:=V (HA.out.below hb HA.out.lt).drew;replace HC:=V (HC.out.below hb HC.out.lt).drew;replace HX:=V (HX.out.below hb HX.out.lt).drew;replace HB:=V (HB.out.trans (hb.mono HB.out.size)).drew;have hS:A4 w.heap.size (w.heap.size+1) bl off w2.drew:=⟨⟨HA.out.two.1,HA.out.two.2.1⟩,⟨HC.out.two.1,HC.out.two.2.1⟩,k0,k1⟩;have HS:=V hS;clear k0 k1 Me La hl hb hk;go_wp2_with fail;refine ed (A4 w.heap.size (w.heap.size+1) bl off) (up 0 9 ((9,false)::up 10 4 ((14,false)::up 15 18 []))) (by kernel_rfl) (by kernel_rfl) hS ?_;clear hS;generalize w2.drew=w3 at HB HA HC HX HS⊢;iterate 9 (first | (apply sk rfl rfl;simp only [pt]) | (apply dT rfl rfl rfl;·(rintro w' ⟨⟨t0,t1⟩,⟨t2,t3⟩,t4,t5⟩;go_wp2;exact⟨rfl,rfl,rfl⟩)))
 refine dZ rfl rfl ?_;go_wp2_with fail;refine(ni ⟨1,2⟩ w3).mono ?_;rintro e w4 ⟨rfl,hb⟩;have hm:decide (fb.may ⟨1,2⟩)=true:=by decide
 rw [hm];replace HA:=V (HA.out.below hb HA.out.lt);replace HC:=V (HC.out.below hb HC.out.lt);replace HX:=V (HX.out.below hb HX.out.lt);replace HB:=V (HB.out.trans (hb.mono HB.out.size));replace HS:=V (HS.out.below hb);clear hb hm;go_wp2_with fail;refine⟨HS.out,?_⟩;iterate 4 (first | (apply sk rfl rfl;simp only [pt]) | (apply dT rfl rfl rfl;·(rintro w' ⟨⟨t0,t1⟩,⟨t2,t3⟩,t4,t5⟩;go_wp2;exact⟨rfl,rfl,rfl⟩)))
 refine dZ rfl rfl ?_;go_wp2_with fail;refine(ni ⟨1,3⟩ w4).mono ?_;rintro e w5 ⟨rfl,hb⟩;have hm:decide (fb.may ⟨1,3⟩)=true:=by decide
 rw [hm];replace HA:=V (HA.out.below hb HA.out.lt);replace HC:=V (HC.out.below hb HC.out.lt);replace HX:=V (HX.out.below hb HX.out.lt);replace HB:=V (HB.out.trans (hb.mono HB.out.size));replace HS:=V (HS.out.below hb);clear hb hm;go_wp2_with fail;refine⟨HS.out,?_⟩;iterate 18 (first | (apply sk rfl rfl;simp only [pt]) | (apply dT rfl rfl rfl;·(rintro w' ⟨⟨t0,t1⟩,⟨t2,t3⟩,t4,t5⟩;go_wp2;exact⟨rfl,rfl,rfl⟩)))
 refine eH ?_;refine aD ?_;go_wp2_with fail;refine(qv 106 w5).mono ?_;rintro e w6 ⟨rfl,hb⟩;have hk:sw 106=(1,106):=by decide+kernel
 rw [hk];replace HA:=V (HA.out.below hb HA.out.lt);replace HC:=V (HC.out.below hb HC.out.lt);replace HX:=V (HX.out.below hb HX.out.lt);replace HB:=V (HB.out.trans (hb.mono HB.out.size));replace HS:=V (HS.out.below hb);clear hb hk;go_wp2_with fail;refine(iE 106 109 112 w6).mono ?_;rintro e w7 ⟨rfl,hb⟩;have hk:lG 106 109 112=false:=by decide
 rw [hk];replace HA:=V (HA.out.below hb HA.out.lt).drew;replace HC:=V (HC.out.below hb HC.out.lt).drew;replace HX:=V (HX.out.below hb HX.out.lt).drew;replace HB:=V (HB.out.trans (hb.mono HB.out.size)).drew;have hS:=(HS.out.below hb).below (an _ _).drew;clear hb hk;go_wp2_with fail;refine ed (A4 w.heap.size (w.heap.size+1) bl off) (up 0 5 ((5,false)::(6,false)::(7,false)::(8,true)::[])) (by kernel_rfl) (by kernel_rfl) hS ?_;replace HS:=V hS;clear hS;generalize w7.drew=w8 at HB HA HC HX HS⊢;iterate 5 (first | (apply sk rfl rfl;simp only [pt]) | (apply dT rfl rfl rfl;·(rintro w' ⟨⟨t0,t1⟩,⟨t2,t3⟩,t4,t5⟩;go_wp2;exact⟨rfl,rfl,rfl⟩)))
 refine dZ rfl rfl ?_;go_wp2_with fail;refine(Cl w8).mono ?_;rintro e w9 ⟨rfl,hb⟩;replace HX:=V (HX.out.below hb HX.out.lt);replace HB:=V (HB.out.trans (hb.mono HB.out.size));replace HS:=V (HS.out.below hb);clear hb;go_wp2_with fail;refine⟨HS.out,?_⟩;refine dZ rfl rfl ?_;go_wp2_with fail;refine(Cx w9).mono ?_;rintro e w10 ⟨rfl,hb⟩;replace HX:=V (HX.out.below hb HX.out.lt);replace HB:=V (HB.out.trans (hb.mono HB.out.size));replace HS:=V (HS.out.below hb);clear hb;go_wp2_with fail;refine⟨HS.out,?_⟩;refine dZ rfl rfl ?_;obtain⟨x0,x1,z0,z1⟩:=HX.out.two;go_wp2_with fail;have Km:=fC w10 (w.heap.size+1+1) (.int .i64 1) (.int .i64 5);have NF:=HX.out.mX (.int .i64 1) (.int .i64 5);have hS:A4 w.heap.size (w.heap.size+1) bl off ((w10.setCell ⟨w.heap.size+1+1,0,none⟩ (.int .i64 1)).setCell ⟨w.heap.size+1+1,1,none⟩ (.int .i64 5)):=by
  obtain⟨⟨h1,h2⟩,⟨h3,h4⟩,h5,h6⟩:=HS.out;have key:∀{a:Addr} {v:Value},w10.cell? a=some v ->a.block≠w.heap.size+1+1 ->((w10.setCell ⟨w.heap.size+1+1,0,none⟩ (.int .i64 1)).setCell ⟨w.heap.size+1+1,1,none⟩ (.int .i64 5)).cell? a=some v:=
   fun ha Mf=>(Km.cell (aS w10 _ ha) Mf).trans ha
  exact⟨⟨key h1 (by simp;omega),key h2 (by simp;omega)⟩,⟨key h3 (by simp),key h4 (by simp)⟩,key h5 Lb,key h6 Lb⟩
 refine⟨hS,?_⟩;have HL:=V NF.ma;have MG:=V (HB.out.trans (Km.below HB.out.size (fun i hi=>by omega)));clear Km NF x0 x1 z0 z1 hS;iterate 1 (first | (apply sk rfl rfl;simp only [pt]) | (apply dT rfl rfl rfl;·(rintro w' ⟨⟨t0,t1⟩,⟨t2,t3⟩,t4,t5⟩;go_wp2;exact⟨rfl,rfl,rfl⟩)))
 refine eH ?_;refine aD ?_;go_wp2_with fail;exact aN (fa rfl _ _ rfl HL.out) rfl ⟨rfl,MG.out⟩
section
def qL (j:Nat):List Edge ->Bool
 | []=>true
 | e::es=>(!Region.binds .any e || decide (e.on < j))&&qL j es
def A8:Nat ->List Oper ->Bool
 | _,[]=>true
 | j,o::rest=>qL j o.after.toList&&A8 (j+1) rest
def jO (L:Array Bool):List Edge ->Prop
 | []=>True
 | e::es=>(Region.binds .any e=true ->L.getD e.on false=true)/\jO L es
def pH (P:Program) (ops:List Oper) (Q:Exit ->Act ->World ->Prop) (I:Array Bool ->Act ->World ->Prop):Nat ->List Oper ->Prop
 | _,[]=>True
 | j,o::rest=>(∀L a w,L.size=ops.length ->L.getD j false=false ->jO L o.after.toList ->I L a w ->ld ops o.guard a=true/\wpList P #[] (nX Q (fun _=>True) (I (L.setIfInBounds j true))) [bare o] a w)/\pH P ops Q I (j+1) rest
theorem rY {j:Nat}:∀{l:List Edge},qL j l=true ->∀e∈l,Region.binds .any e=true ->e.on < j
 | [],_,e,he,_=>by cases he
 | x::l,h,e,he,hb=>by
  simp only [qL,bN,Bool.or_eq_true,dN,dj]at h;rcases bJ.1 he with rfl | he
  ·rcases h.1 with h1 | h1
   ·rw [h1]at hb;cases hb
   ·exact h1
  ·exact rY h.2 e he hb
theorem xM:∀{l:List Oper} {k j:Nat} {o:Oper},A8 k l=true ->l[j]?=some o ->qL (k+j) o.after.toList=true
 | [],_,j,o,_,h=>by simp at h
 | x::l,k,0,o,hk,h=>by
  simp only [A8,bN]at hk;simp at h;subst h;exact hk.1
 | x::l,k,j+1,o,hk,h=>by
  simp only [A8,bN]at hk;have:=xM (j:=j) hk.2 (by simpa using h)
  rwa [show k+1+j=k+(j+1)by omega]at this
theorem td {L:Array Bool}:∀{l:List Edge},(∀e∈l,Region.binds .any e=true ->L.getD e.on false=true) ->jO L l
 | [],_=>trivial
 | x::l,h=>⟨h x (by simp),td (fun e he=>h e (by simp [he]))⟩
theorem pN {P:Program} {ops:List Oper} {Q:Exit ->Act ->World ->Prop} {I:Array Bool ->Act ->World ->Prop}:∀{l:List Oper} {k j:Nat} {o:Oper},pH P ops Q I k l ->l[j]?=some o ->
  ∀L a w,L.size=ops.length ->L.getD (k+j) false=false ->jO L o.after.toList ->I L a w ->ld ops o.guard a=true/\wpList P #[] (nX Q (fun _=>True) (I (L.setIfInBounds (k+j) true))) [bare o] a w
 | [],_,_,_,_,h=>by simp at h
 | x::l,k,0,o,hk,h=>by
  simp at h;subst h;exact hk.1
 | x::l,k,j+1,o,hk,h=>by
  have:=pN (j:=j) hk.2 (by simpa using h)
  rwa [show k+1+j=k+(j+1)by omega]at this
theorem wk {ops:List Oper} {L:Array Bool} (hac:A8 0 ops=true) (hL:L.size=ops.length) (h:Region.ready .any ops.toArray L=[]):∀n i,i < n ->i < ops.length ->L.getD i false=true
 | 0,i,hi,_=>by omega
 | n+1,i,hi,hil=>by
  cases hb:L.getD i false with
  | true=>rfl
  | false=>
   exfalso;have hmem:i∈Region.ready .any ops.toArray L:=by
    unfold Region.ready;rw [List.mem_filter];refine⟨by simpa using hil,?_⟩;have h1:L.getD i true=false:=by
     have hs:i < L.size:=by omega
     simpa [hs] using hb
    rw [h1];have h2:=aq hil;simp only [aG,h2,bF,dD,Bool.not_false,ct,Array.all_eq_true'];intro e he;have h3:=xM hac h2;rw [bX]at h3;cases NJ:Region.binds .any e with
    | false=>rfl
    | true=>
     have h4:=rY h3 e (by simpa using he) NJ;have h5:=wk hac hL h n e.on (by omega) (by omega);simp [h5]
   rw [h]at hmem;cases hmem
theorem uC {P:Program} {ops:List Oper} {Q:Exit ->Act ->World ->Prop} (I:Array Bool ->Act ->World ->Prop) (hac:A8 0 ops=true) (step:pH P ops Q I 0 ops) (last:∀L a w,(∀j,j < ops.length ->L.getD j false=true) ->I L a w ->Q .normal a w):
  ∀(fuel:Nat) (L:Array Bool) (a:Act) (w:World),L.size=ops.length ->((List.range ops.length).filter fun i=> !L.getD i false).length <=fuel ->I L a w ->wpAnyH P .any ops.toArray Q (fun _=>True) fuel L a w
 | 0,L,a,w,hL,hc,h=>by
  have KG:∀j,j < ops.length ->L.getD j false=true:=by
   intro j hj;cases hb:L.getD j false with
   | true=>rfl
   | false=>
    have:j∈(List.range ops.length).filter fun i=> !L.getD i false:=by
     rw [List.mem_filter];exact⟨by simpa using hj,by rw [hb];rfl⟩
    have h0:=aH (Nat.le_zero.1 hc);rw [h0]at this;cases this
  refine⟨?_,last L a w KG h⟩;unfold Region.ready;rw [List.filter_eq_nil_iff];intro i hi;have hi2:i < ops.length:=by simpa using hi
  have h1:=KG i hi2;have hs:i < L.size:=by omega
  have h2:L.getD i true=true:=by simpa [hs] using h1
  rw [h2];simp
 | fuel+1,L,a,w,hL,hc,h=>by
  refine⟨fun hr=>last L a w (fun j hj=>wk hac hL hr (j+1) j (by omega) hj) h,fun j hj=>?_⟩;obtain⟨hjun,o,ho,KG⟩:=mem_ready.1 hj;have KB:ops[j]?=some o:=by simpa using ho
  have hjl:j < ops.length:=(aL.1 KB).1;have KI:=pN step KB L a w hL (by
   have hs:j < L.size:=by omega
   simpa [hs] using hjun) (td fun e he hb=>by
   have:=KG e (by simpa using he) hb;simpa using this) h
  rw [bX]at KI;refine mT (S:=fun _=>True) (K:=I (L.setIfInBounds j true)) trivial (fun a w _ hk=>?_) ⟨o,by simpa [nV] using KB, .inl ⟨KI.1,KI.2⟩⟩;refine uC I hac step last fuel _ a w (by simpa using hL) ?_ hk;have Kq:((List.range ops.length).filter fun i=> !(L.setIfInBounds j true).getD i false).length < ((List.range ops.length).filter fun i=> !L.getD i false).length:=by
   have hsub:((List.range ops.length).filter fun i=> !(L.setIfInBounds j true).getD i false)=(((List.range ops.length).filter fun i=> !L.getD i false).filter fun i=>decide (i≠j)):=by
    rw [List.filter_filter];apply List.filter_congr;intro i hi;have hi2:i < L.size:=by rw [hL];simpa using hi
    by_cases q:i=j
    ·subst q
     simp [hi2]
    ·have q2:j≠i:=fun e=>q e.symm
     simp [hi2,q,q2]
   rw [hsub];refine List.length_filter_lt_length_iff_exists.2 ⟨j,?_,by simp⟩;rw [List.mem_filter];refine⟨by simpa using hjl,?_⟩;have hs:j < L.size:=by omega
   simp [hs]at hjun⊢;exact hjun
  omega
theorem tP {P:Program} {ops:List Oper} {Q:Exit ->Act ->World ->Prop} {id:Nat} {a:Act} {w:World} (I:Array Bool ->Act ->World ->Prop) (hm:P.follows .mixedOrders=true) (hac:A8 0 ops=true)
  (h0:I (Array.replicate ops.length false) a w.drew) (step:pH P ops (NoPanic Q) I 0 ops) (last:∀L a w,(∀j,j < ops.length ->L.getD j false=true) ->I L a w ->NoPanic Q .normal a w):(Code.region id ops.toArray true).wp P Q a w:=by
 refine wp_region_noPanic (wp_region_held (S:=fun _=>True) hm ?_);refine uC I hac step last _ _ a _ (by simp) ?_ (by simpa using h0);refine aW (List.length_filter_le _ _) (by simp)
theorem iX {n k:Nat} (h:(Array.replicate n false).getD k false=true):False:=by
 by_cases hk:k < n
 ·simp [hk]at h
 ·simp [hk]at h
def mY (i j B:Nat) (Qh xs:Array Value) (t:TypeId) (L:Array Bool) (s:Value) (w:World):Prop:=
 (L.getD j false=true ->L.getD i false=true)/\(L.getD i false=true ->∃T,s= .pointer (some ⟨T,0,none⟩)/\B <=T/\eE w T (if L.getD j false=true then xs else Qh) t)
section
variable {i j k B:Nat} {Qh xs:Array Value} {t:TypeId} {L:Array Bool} {s:Value} {w w':World}
theorem jF (h:k≠i):(L.setIfInBounds i true).getD k false=L.getD k false:=by
 have h2:i≠k:=fun e=>h e.symm;by_cases hk:k < L.size
 ·simp [hk,h2]
 ·simp [hk]
theorem mY.start (n:Nat):mY i j B Qh xs t (Array.replicate n false) s w:=⟨fun h=>(iX h).elim,fun h=>(iX h).elim⟩
theorem mY.below (h:mY i j B Qh xs t L s w) (hb:Below w.heap.size w w'):mY i j B Qh xs t L s w':=by
 refine⟨h.1,fun g=>?_⟩;obtain⟨T,h1,h2,h3⟩:=h.2 g;exact⟨T,h1,h2,h3.below hb h3.lt⟩
theorem mY.other (h:mY i j B Qh xs t L s w) (h1:i≠k) (h2:j≠k) (hb:Below w.heap.size w w'):mY i j B Qh xs t (L.setIfInBounds k true) s w':=by
 have:=h.below hb;unfold mY;rw [jF h1,jF h2];exact this
theorem mY.alloc (h:mY i j B Qh xs t L s w) (hi:L.getD i false=false) (hij:j≠i) (hB:B <=w.heap.size):mY i j B Qh xs t (L.setIfInBounds i true) (.pointer (some ⟨w.heap.size,0,none⟩)) (w.alloc (.cells Qh t)):=by
 have hj:L.getD j false=false:=by
  cases hb:L.getD j false with
  | false=>rfl
  | true=>rw [h.1 hb]at hi;cases hi
 unfold mY;rw [jF hij,hj];refine⟨fun g=>(by cases g),fun _=>⟨_,rfl,hB,eE.new w Qh t⟩⟩
theorem mY.open (h:mY i j B Qh xs t L s w) (hi:L.getD i false=true) (hj:L.getD j false=false):∃T,s= .pointer (some ⟨T,0,none⟩)/\B <=T/\eE w T Qh t:=by
 obtain⟨T,h1,h2,h3⟩:=h.2 hi;rw [hj]at h3;exact⟨T,h1,h2,h3⟩
theorem mY.store {T n:Nat} (hi:L.getD i false=true) (hij:i≠j) (hL:L.size=n) (hjn:j < n) (hB:B <=T) (hk:eE w' T xs t):mY i j B Qh xs t (L.setIfInBounds j true) (.pointer (some ⟨T,0,none⟩)) w':=by
 have hj:(L.setIfInBounds j true).getD j false=true:=by simp [hL,hjn]
 unfold mY;rw [jF hij,hj,hi];exact⟨fun _=>rfl,fun _=>⟨T,rfl,hB,hk⟩⟩
theorem mY.all (h:mY i j B Qh xs t L s w) (hi:L.getD i false=true) (hj:L.getD j false=true):∃T,s= .pointer (some ⟨T,0,none⟩)/\B <=T/\eE w T xs t:=by
 obtain⟨T,h1,h2,h3⟩:=h.2 hi;rw [hj]at h3;exact⟨T,h1,h2,h3⟩
end
theorem ei {L:Array Bool} {j k:Nat} {p:Prop} (h:L.getD k false=true ->p) (hk:k≠j):(L.setIfInBounds j true).getD k false=true ->p:=fun g=>h (by rwa [jF hk]at g)
end
end Go.Proofs.YthbjdhjppbcneaaGreatDoor
