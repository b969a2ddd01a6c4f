import Derived.Test.YtjmeglibedbljaaGreatDoorRunNoneJ12
namespace Go.Proofs.YtjmeglibedbljaaGreatDoor
set_option maxRecDepth 100000
set_option maxHeartbeats 20000000
open Go.RowKit Tryz
open Lib renaming hid->V
set_option linter.all false
def gH:yr ->List jh ->Option yr
 | s,[]=>some s
 | s,x::l=>(iD s x.off x.funcs).bind fun s'=>gH s' l
theorem qf:∀(s:yr) (l:List jh) (x:jh),gH s (l++[x])=(gH s l).bind fun s'=>iD s' x.off x.funcs
 | s,[],x=>by simp [gH]
 | s,y::l,x=>by
  simp only [bI,gH];cases iD s y.off y.funcs with
  | none=>rfl
  | some s'=>simp [qf s' l x]
theorem qc:∀{s:yr} {l:List jh} {i:Nat},gH s (l.take i)=none ->gH s l=none
 | s,[],i,h=>by simpa using h
 | s,x::l,0,h=>by simp [gH]at h
 | s,x::l,i+1,h=>by
  simp only [List.take_succ_cons,gH]at h⊢;cases hx:iD s x.off x.funcs with
  | none=>rfl
  | some s'=>
   rw [hx]at h;exact qc (s:=s') (l:=l) (i:=i) h
def DP (m:eu) (w:World) (e:Ending) (w':World):Prop:=
 Below w.heap.size w w'/\((iW m≠-1/\e= .returned (.tuple #[.pointer none, .int .i64 6]))\/(iW m= -1/\gH (gr m) m.elems=none/\e= .returned (.tuple #[.pointer none, .int .i64 3]))\/
  ∃X FX FM FSs iv sp,iW m= -1/\gH (gr m) m.elems=some sp/\e= .returned (.tuple #[.pointer (some ⟨X,0,none⟩), .int .i64 0])/\iw w' FX X iv m/\ym w' FM iv.vm (iT m.mem)/\Lp w' FSs iv.vs sp/\
   (∀g,FX g=true\/FM g=true\/FSs g=true ->w.heap.size <=g/\g < w'.heap.size)/\∀g,(FX g=true ->FM g=false/\FSs g=false)/\(FM g=true ->FSs g=false))
structure sL (w0:World) (m:eu) (w:World) (X:Nat) (u:eE) (vm:Value) (Xs a s3 s4 s5:Nat) (sp:yr):Prop where
 below:Below w0.heap.size w0 w
 ord:w0.heap.size <=a/\a <=s3/\s3 <=s4/\s4 <=s5/\X=s5/\s5 < w.heap.size
 mod:eo (mask (fun k=> !rJ a s3 k) w) u m
 jq:eD w X (tb ⟨u,vm, .pointer (some ⟨Xs,0,none⟩), .slice none 0 0,[]⟩ m) 102
 mem:ym w (rJ s3 s4) vm (iT m.mem)
 space:nx w s4 Xs sp
 xs:s4 <=Xs/\Xs < s5
theorem sL.keeps {w0:World} {m:eu} {w w':World} {X:Nat} {u:eE} {vm:Value} {Xs a s3 s4 s5:Nat} {sp sp':yr} {P:Nat ->Prop} (h:sL w0 m w X u vm Xs a s3 s4 s5 sp) (hk:dU P w w') (hP:∀g,P g ->s4 <=g/\¬ g=X) (hs:nx w' s4 Xs sp'):sL w0 m w' X u vm Xs a s3 s4 s5 sp':=by
 obtain⟨o1,o2,o3,o4,o5,o6⟩:=h.ord;refine⟨h.below.trans (hk.below h.below.size (fun i hi=>by have:=(hP i hi).1;omega)),⟨o1,o2,o3,o4,o5,bo o6 hk.size⟩,h.mod.ext (iC hk (fun k _ hp=>?_) (fun k _ hp=>hp)),h.jq.keeps hk (fun hx=>(hP X hx).2 rfl),h.mem.keeps hk (fun g hg=>?_),hs,h.xs⟩
 ·have:=(hP k hp).1
  simp [rJ];omega
 ·have:=(hP g hg).1
  simp [rJ];omega
theorem Hl {w:World} {B:Nat} {p:Value} {e:Option zI} (h:Ku w B p e):ym w (rJ B w.heap.size) p e:=by
 rcases h with h | ⟨x,X,h1,h2,⟨v,v',h3,h4,h5⟩,h6⟩
 ·exact .inl h
 ·exact .inr ⟨x,X,v,v',h1,h2,h3,h4.lower (bB _),h5.lower (bB _),kx.2 ⟨h6,h3.lt⟩,fun g hg=>kx.2 (ey h4 hg),fun g hg=>kx.2 (ey h5 hg)⟩
theorem nx.keeps {P:Nat ->Prop} {w w':World} {B X:Nat} {e:yr} (h:nx w B X e) (hX:B <=X) (hk:dU P w w') (hP:∀g,P g ->g < B\/w.heap.size <=g):nx w' B X e:=by
 obtain⟨v,v',h1,h2,h3⟩:=h;have:=h1.lt;exact⟨v,v',h1.keeps hk (fun hp=>by have:=hP X hp;omega),h2.keeps hk (fun g hg hp=>by have:=ey h2 hg;have:=hP g hp;omega),h3.keeps hk (fun g hg hp=>by have:=ey h3 hg;have:=hP g hp;omega)⟩
def Dn (FM:Nat ->Bool) (p:Value) (e:Option zI) (w:World) (en:Ending) (w':World):Prop:=en= .returned (.tuple #[])/\ym w' FM p (e.map fun x=>{x with Cv:=[]})/\dU (fun i=>FM i=true) w w'
theorem Bw (w:World) (FM:Nat ->Bool) (p:Value) (e:Option zI) (h:ym w FM p e):Calls prog 41 #[p] w (Dn FM p e w):=by
 rcases h with⟨rfl,rfl⟩ | ⟨x,X,v,v',rfl,rfl,hx,hb,hd,h1,h2,h3⟩
 ·go_enter func41,ntmps41
  go_wp2
  go_end0
  exact⟨rfl, .inl ⟨rfl,rfl⟩,dU.refl _ _⟩
 ·have x2:w.cell? ⟨X,2,none⟩=some v':=hx.cell 2
  have z2:=hx.free 2;have HX:=V hx;have HB:=V hb;have H1:=V h1;have H2:=V h2;clear hb hd hx h1 h2 h3;go_enter func41,ntmps41;go_wp2
  go_end0
  have Lx:=ei w X 2 (.slice none 0 0);exact⟨rfl, .inr ⟨_,X,_,_,rfl,rfl,HX.out.set 2 (.slice none 0 0),HB.out.keeps Lx (ed.fV HB.out HX.out (by decide)),dS.nil _ _,H1.out,H2.out,fun g hg=>by simp [ez,Value.ownBlock]at hg⟩,Lx.mono (fun i hi=>by subst hi;exact H1.out)⟩
theorem xW (l:fN):(iT l).map (fun x=>{x with Cv:=[]})=iT l:=by
 unfold iT;split <;>rfl
theorem nx.Fe {w:World} {B X:Nat} {xs:Array Value} {t:TypeId} (hx:eD w X xs t) (ht:t≠3):¬ F9 w B X:=fun⟨_,_,hy⟩=>ht (hx.uniq hy)
theorem sL.clean {w0:World} {m:eu} {w w':World} {X:Nat} {u:eE} {vm:Value} {Xs a s3 s4 s5:Nat} {sp:yr} (h:sL w0 m w X u vm Xs a s3 s4 s5 sp) (hk:dU (fun i=>rJ s3 s4 i=true) w w') (hm:ym w' (rJ s3 s4) vm (iT m.mem)):sL w0 m w' X u vm Xs a s3 s4 s5 sp:=by
 obtain⟨o1,o2,o3,o4,o5,o6⟩:=h.ord;refine⟨h.below.trans (hk.below h.below.size (fun i hi=>by have:=kx.1 hi;omega)),⟨o1,o2,o3,o4,o5,bo o6 hk.size⟩,h.mod.ext (iC hk (fun k _ hp=>?_) (fun k _ hp=>hp)),h.jq.keeps hk (fun hx=>by have:=kx.1 hx;omega),hm,h.space.keeps h.xs.1 hk (fun g hg=> .inl (kx.1 hg).2),h.xs⟩;have:=kx.1 hp;simp [rJ];omega
theorem vG {l:List eP} {i:Nat} {x:eP} {st N5:List jP × List Nat} (h:gd l i x st=some N5) (hp:∀b∈st.1,0 <=b.pos/\b.pos <=i):∀b∈N5.1,0 <=b.pos/\b.pos <=i:=by
 have O8:∀(k:Nat) (b b':jP),st.1[k]?=some b ->b'.pos=b.pos ->∀y∈st.1.set k b',0 <=y.pos/\y.pos <=i:=by
  intro k b b' hb he y hy;rcases dH hy with h1 | h1
  ·exact hp y h1
  ·rw [h1,he]
   exact hp b (aN hb)
 unfold gd at h;split at h
 ·split at h
  ·cases h
  ·injection h with h
   subst h;intro b hb;rcases bT.1 hb with h1 | h1
   ·exact hp b h1
   ·rw [aV.1 h1]
    exact⟨by simp,by simp⟩
 ·split at h
  ·injection h with h
   subst h;exact hp
  ·split at h
   ·cases h
   ·rename_i k hk
    split at h
    ·cases h
    ·rename_i b hb
     split at h
     ·injection h with h
      subst h;exact O8 k b _ hb rfl
     ·split at h
      ·cases h
      ·split at h
       ·cases h
       ·injection h with h
        subst h;exact O8 k b _ hb rfl
theorem sN (l:List eP):∀(rest:List eP) (i:Nat) (st N5:List jP × List Nat),gB l rest i st=some N5 ->(∀b∈st.1,0 <=b.pos/\b.pos <=i) ->∀b∈N5.1,0 <=b.pos/\b.pos <=i+rest.length
 | [],i,st,N5,h,hp=>by
  simp only [gB,aS]at h;subst h;simpa using hp
 | x::rest,i,st,N5,h,hp=>by
  simp only [gB]at h;cases hs:gd l i x st with
  | none=>rw [hs]at h;simp at h
  | some Rr=>
   rw [hs,ao]at h;have h1:=vG hs hp;intro b hb;have:=sN l rest (i+1) Rr N5 h (fun b hb=>by have:=h1 b hb;omega) b hb;rw [aE];omega
theorem AK {l:List eP} {bs:List jP} (h:fJ l=some bs):∀b∈bs,0 <=b.pos/\b.pos <=300:=by
 unfold fJ at h;split at h
 ·cases h
 ·rename_i hl
  cases hg:gB l l 0 ([],[])with
  | none=>rw [hg]at h;simp at h
  | some st=>
   rw [hg,ao]at h;split at h
   ·injection h with h
    subst h;intro b hb;have:=sN l l 0 _ _ hg (by simp) b hb;omega
   ·cases h
theorem fR.new (w:World):fR (w.alloc (.map #[] 0)) w.heap.size []:=⟨0,ag _,World.ownsMap_made _ _ _ _⟩
theorem AA {w w':World} {j:Nat} (h:w.grownBy w' (some j)):dU (fun g=>g=j) w w':=⟨h.os,h.tape,h.output,h.size,fun k hk hn=>h.block k hk (fun e=>hn (by injection e))⟩
theorem DD:(prog.info? 112).map (fun i=>(i.zero,i.size,i.bytes))=some (some (.map none),1,8):=by kernel_rfl
structure xj (hi:Nat) (w:World) (X:Nat) (u:eE) (vm vs:Value) (m:eu) (vj:Value) (js:List Nat):Prop where
 jq:eD w X (tb ⟨u,vm,vs,vj,js⟩ m) 102
 row:dS 112 1 yv w hi vj js
 maps:∀(i j:Nat) (c:hI),js[i]?=some j ->m.eh[i]?=some c ->fR w j (oa c)/\hi <=j
theorem fR.fV {w:World} {j X:Nat} {l:List jP} {xs:Array Value} {t:TypeId} (h:fR w j l) (hx:eD w X xs t):j≠X:=by
 obtain⟨_,_,es,clock,hb,_⟩:=h;intro e;subst e;have:=hx.symm.trans hb;injection this with this;cases this
theorem xj.more {hi:Nat} {w w1 w2 w3:World} {X:Nat} {u:eE} {vm vs:Value} {m:eu} {vj:Value} {js:List Nat} {j:Nat} {c:hI} {a2:Option Addr} {n2 c2:Nat} (h:xj hi w X u vm vs m vj js) (hb:Below w.heap.size w w1) (hj1:w.heap.size <=j) (hk:dU (fun g=>g=j) w1 w2) (hc:m.eh[js.length]?=some c) (hjm:fR w2 j (oa c)) (hhi:hi <=w.heap.size)
  (ho:dS 112 1 yv w3 hi (.slice a2 n2 c2) (js++[j])) (Mz:dU (ez vj) w2 w3):xj hi (w3.setCell ⟨X,16,none⟩ (.slice a2 n2 c2)) X u vm vs m (.slice a2 n2 c2) (js++[j]):=by
 have QH:=h.jq.lt;have hXj:¬ X=j:=by omega
 have Pn:=(h.jq.below hb QH).keeps hk hXj;have Qv:dS 112 1 yv w2 hi vj js:=(h.row.below hb).keeps hk (fun g hg e=>by have:=(ey h.row hg).2;omega);have hx3:=Pn.keeps Mz (fun hg=>dS.fV Qv Pn (by decide) X hg rfl);have Lx:=ei w3 X 16 (.slice a2 n2 c2);have key:∀(j':Nat) (l:List jP),fR w2 j' l ->fR (w3.setCell ⟨X,16,none⟩ (.slice a2 n2 c2)) j' l:=fun j' l g=>by
  have g3:=g.keeps Mz (fun hg=>by
   obtain⟨cur,hcur⟩:=Qv.has hg;exact g.fV hcur rfl)
  exact g3.keeps Lx (g3.fV hx3)
 refine⟨?_,ho.keeps Lx (dS.fV ho hx3 (by decide)),fun i j' c' hj' MV=>?_⟩
 ·have:=hx3.set 16 (.slice a2 n2 c2)
  simpa [tb] using this
 ·by_cases q:i < js.length
  ·rw [bE q]at hj'
   obtain⟨g1,g2⟩:=h.maps i j' c' hj' MV;exact⟨key j' _ ((g1.below hb).keeps hk (by have:=g1.lt;omega)),g2⟩
  ·have hi2:=(aG.1 hj').1
   rw [ah,aB]at hi2;obtain rfl:i=js.length:=by omega
   rw [bA (ag _),Nat.sub_self]at hj';simp only [aJ,aS]at hj';subst hj';rw [hc]at MV;injection MV with MV;subst MV;exact⟨key j _ hjm,by omega⟩
theorem lH (m:eu) (u:eE) (w:World) (hm:eo w u m) (hs:m.words) (he:∀c∈m.eh,∀x∈c.body,x.ot) (hn:m.imports.length+m.funcs.length <=1000000) (hd:m.eA=[]):Calls prog 21 #[.agg (u.cells m)] w (DP m w):=by
 have HI:=V hm;have Q7:=V hs;have HE:=V he;have HND:=V hd;obtain⟨a0,c0,a1,c1,a2,c2,a3,c3,a4,c4,a5,c5,a6,c6,a7,c7,rfl⟩:=eo.open hm;simp only [eE.cells];clear hm hs he hd;have HX:=V (eD.new w #[.slice a0 m.types.length c0, .slice a1 m.imports.length c1, .slice a2 m.funcs.length c2, .bool m.table.has, .int .i64 m.table.min, .int .i64 m.table.max, .bool m.mem.has, .int .i64 m.mem.min, .int .i64 m.mem.max, .slice a3 m.globals.length c3, .slice a4 m.dY.length c4, .slice a5 m.elems.length c5, .slice a6 m.eh.length c6, .slice a7 m.eA.length c7] 35);have HS:=V ((an w.heap.size w).alloc (ag _) (.cells #[.slice a0 m.types.length c0, .slice a1 m.imports.length c1, .slice a2 m.funcs.length c2, .bool m.table.has, .int .i64 m.table.min, .int .i64 m.table.max, .bool m.mem.has, .int .i64 m.mem.min, .int .i64 m.mem.max, .slice a3 m.globals.length c3, .slice a4 m.dY.length c4, .slice a5 m.elems.length c5, .slice a6 m.eh.length c6, .slice a7 m.eA.length c7] 35));go_enter func21,ntmps21;go_wp2_with fail;refine(pE m ⟨.slice a0 m.types.length c0, .slice a1 m.imports.length c1, .slice a2 m.funcs.length c2, .slice a3 m.globals.length c3, .slice a4 m.dY.length c4, .slice a5 m.elems.length c5, .slice a6 m.eh.length c6, .slice a7 m.eA.length c7⟩ _ (eo.below HI.out HS.out) Q7.out hn HE.out).mono ?_;rintro e w1 ⟨rfl,hb⟩;replace HX:=V (HX.out.below hb HX.out.lt);replace HS:=V (HS.out.trans (hb.mono HS.out.size));clear hb;by_cases hv:iW m= -1;rotate_left
 ·have f1:decide (iW m= -1)=false:=aw hv
  have HV:=V hv;rw [f1];clear hv;go_wp2
  go_ret2
  exact⟨HS.out, .inl ⟨HV.out,rfl⟩⟩
 have MT:m.may:=by
  by_cases q:m.may
  ·exact q
  ·exfalso
   rw [iW,aD (aw q)]at hv;exact absurd hv (by decide)
 have Ni:=V MT;have HV:=V hv;have htb:m.table.has=true ->0 <=m.table.min/\m.table.min <=1000:=fun h=>by
  have h1:=MT.1.2.2.1;unfold fN.may at h1;simp only [h]at h1;simp at h1;omega
 have hgl:m.globals.length <=1000:=by
  have h1:=MT.1.2.1.2.1.1;omega
 have hel16:m.elems.length <=16:=MT.1.2.1.2.2.2.1.1;have hco16:m.eh.length <=16:=MT.1.1.2.1;have Pz:=V htb;rw [hv];clear hv MT htb;have ht:=HX.out.drew.mod;go_wp2_with fail;refine ea (fun w'=>w'.cell? ⟨w.heap.size,0,none⟩=some (.slice a0 m.types.length c0)/\w'.cell? ⟨w.heap.size,1,none⟩=some (.slice a1 m.imports.length c1)/\w'.cell? ⟨w.heap.size,2,none⟩=some (.slice a2 m.funcs.length c2)/\w'.cell? ⟨w.heap.size,3,none⟩=some (.bool m.table.has)/\w'.cell? ⟨w.heap.size,4,none⟩=some (.int .i64 m.table.min)/\w'.cell? ⟨w.heap.size,5,none⟩=some (.int .i64 m.table.max)/\w'.cell? ⟨w.heap.size,6,none⟩=some (.bool m.mem.has)/\w'.cell? ⟨w.heap.size,7,none⟩=some (.int .i64 m.mem.min)/\w'.cell? ⟨w.heap.size,8,none⟩=some (.int .i64 m.mem.max)/\w'.cell? ⟨w.heap.size,9,none⟩=some (.slice a3 m.globals.length c3)/\w'.cell? ⟨w.heap.size,10,none⟩=some (.slice a4 m.dY.length c4)/\w'.cell? ⟨w.heap.size,11,none⟩=some (.slice a5 m.elems.length c5)/\w'.cell? ⟨w.heap.size,12,none⟩=some (.slice a6 m.eh.length c6)/\w'.cell? ⟨w.heap.size,13,none⟩=some (.slice a7 m.eA.length c7)) [(0,true),(2,true),(3,true),(5,true),(1,false),(4,false),(6,false),(7,true),(8,false),(9,true)] (by kernel_rfl) (by kernel_rfl) ht ?_;clear ht;replace HX:=V HX.out.drew;replace HS:=V HS.out.drew;generalize w1.drew=w2 at HX HS⊢;iterate 4 (first | (apply sk rfl rfl;simp only [pt]) | (apply dV rfl rfl rfl;·(rintro w' ⟨t0,t1,t2,t3,t4,t5,t6,t7,t8,t9,t10,t11,t12,t13⟩;go_wp2;exact⟨rfl,rfl,rfl⟩)))
 refine dZ rfl rfl ?_;go_wp2_with fail;refine(BB m ⟨.slice a0 m.types.length c0, .slice a1 m.imports.length c1, .slice a2 m.funcs.length c2, .slice a3 m.globals.length c3, .slice a4 m.dY.length c4, .slice a5 m.elems.length c5, .slice a6 m.eh.length c6, .slice a7 m.eA.length c7⟩ w2 (eo.below HI.out HS.out) Q7.out Ni.out).mono ?_;rintro e w3 ⟨u',rfl,hu,hb⟩;have s2:=HX.out.lt;replace HX:=V (HX.out.below hb HX.out.lt);replace HS:=V (HS.out.trans (hb.mono HS.out.size));have s23:=hb.size;obtain⟨b0,k0,b1,k1,b2,k2,b3,k3,b4,k4,b5,k5,b6,k6,b7,k7,rfl⟩:=eo.open hu;simp only [eE.cells];have HU:=V hu;clear hu hb;go_wp2_with fail;refine⟨HX.out.mod,?_⟩;refine dZ rfl rfl ?_;go_wp2_with fail;refine(Bc m.mem w3).mono ?_;rintro e w4 ⟨hb,hme⟩;obtain⟨vm,rfl,hp⟩:∃vm,e= .returned vm/\Ku w4 w3.heap.size vm (iT m.mem):=by
  rcases hme with⟨h1,rfl⟩ | ⟨x,X,h1,rfl,h2,h3⟩
  ·exact⟨_,rfl, .inl ⟨h1,rfl⟩⟩
  ·exact⟨_,rfl, .inr ⟨x,X,h1,rfl,h2,h3⟩⟩
 obtain⟨pm,hpm⟩:∃pm,vm= .pointer pm:=by
  rcases hp with⟨-,h⟩ | ⟨_,X,-,h,-⟩
  ·exact⟨_,h⟩
  ·exact⟨_,h⟩
 subst hpm;have s34:=hb.size;replace HX:=V (HX.out.below hb HX.out.lt);replace HS:=V (HS.out.trans (hb.mono HS.out.size));have HMP:=V hp;have HB34:=V hb;clear hb hme hp;go_wp2_with fail;refine⟨HX.out.mod,?_⟩;refine dZ rfl rfl ?_;go_wp2_with fail;refine(xH m ⟨.slice a0 m.types.length c0, .slice a1 m.imports.length c1, .slice a2 m.funcs.length c2, .slice a3 m.globals.length c3, .slice a4 m.dY.length c4, .slice a5 m.elems.length c5, .slice a6 m.eh.length c6, .slice a7 m.eA.length c7⟩ w4 (eo.below HI.out HS.out) Pz.out hgl).mono ?_;rintro e w5 ⟨Xs,rfl,Qc,hXs,hb⟩;have s45:=hb.size;replace HX:=V (HX.out.below hb HX.out.lt);replace HS:=V (HS.out.trans (hb.mono HS.out.size));have Qw:=V Qc;have HB45:=V hb;have QH:Xs < w5.heap.size:=by obtain⟨_,_,h,_⟩:=Qc;exact h.lt
 clear hb Qc;go_wp2_with fail;refine⟨HX.out.mod,?_⟩;iterate 1 (first | (apply sk rfl rfl;simp only [pt]) | (apply dV rfl rfl rfl;·(rintro w' ⟨t0,t1,t2,t3,t4,t5,t6,t7,t8,t9,t10,t11,t12,t13⟩;go_wp2;exact⟨rfl,rfl,rfl⟩)))
 refine dZ rfl rfl ?_;have hb:=(an w5.heap.size w5).alloc (ag _) (.cells #[.slice b0 m.types.length k0, .slice b1 m.imports.length k1, .slice b2 m.funcs.length k2, .bool m.table.has, .int .i64 m.table.min, .int .i64 m.table.max, .bool m.mem.has, .int .i64 m.mem.min, .int .i64 m.mem.max, .slice b3 m.globals.length k3, .slice b4 m.dY.length k4, .slice b5 m.elems.length k5, .slice b6 m.eh.length k6, .slice b7 m.eA.length k7, .pointer pm, .pointer (some ⟨Xs,0,none⟩), .slice none 0 0] 102);have hxx:=eD.new w5 #[.slice b0 m.types.length k0, .slice b1 m.imports.length k1, .slice b2 m.funcs.length k2, .bool m.table.has, .int .i64 m.table.min, .int .i64 m.table.max, .bool m.mem.has, .int .i64 m.mem.min, .int .i64 m.mem.max, .slice b3 m.globals.length k3, .slice b4 m.dY.length k4, .slice b5 m.elems.length k5, .slice b6 m.eh.length k6, .slice b7 m.eA.length k7, .pointer pm, .pointer (some ⟨Xs,0,none⟩), .slice none 0 0] 102;have HN:=V (show sL w m _ w5.heap.size ⟨.slice b0 m.types.length k0, .slice b1 m.imports.length k1, .slice b2 m.funcs.length k2, .slice b3 m.globals.length k3, .slice b4 m.dY.length k4, .slice b5 m.elems.length k5, .slice b6 m.eh.length k6, .slice b7 m.eA.length k7⟩ (.pointer pm) Xs w2.heap.size w3.heap.size w4.heap.size w5.heap.size (gr m)from
  ⟨HS.out.trans (hb.mono HS.out.size),⟨Nat.le_of_lt s2,s23,s34,s45,rfl,hxx.lt⟩,
   HU.out.ext (iC ((dU.dW (S:=fun _=>False) HB34.out).trans ((dU.dW (S:=fun _=>False) HB45.out).trans (dU.dW (S:=fun _=>False) hb) (fun _ h=>h.elim)) (fun _ h=>h.elim)) (fun _ _ h=>h.elim) (fun i hi h=>by simp [rJ,jO]at h⊢;omega)),
   hxx,(Hl HMP.out).keeps (P:=fun _=>False) ((dU.dW HB45.out).trans (dU.dW (S:=fun _=>False) hb) (fun _ h=>h.elim)) (fun _ h=>h.elim),nx.keeps (P:=fun _=>False) Qw.out hXs (dU.dW hb) (fun _ h=>h.elim),hXs,QH⟩)
 replace HX:=V (HX.out.below hb HX.out.lt);clear hb hxx HMP Qw HB34 HB45 HU HS;go_wp2_with fail;generalize w5.alloc (.cells #[.slice b0 m.types.length k0, .slice b1 m.imports.length k1, .slice b2 m.funcs.length k2, .bool m.table.has, .int .i64 m.table.min, .int .i64 m.table.max, .bool m.mem.has, .int .i64 m.mem.min, .int .i64 m.mem.max, .slice b3 m.globals.length k3, .slice b4 m.dY.length k4, .slice b5 m.elems.length k5, .slice b6 m.eh.length k6, .slice b7 m.eA.length k7, .pointer pm, .pointer (some ⟨Xs,0,none⟩), .slice none 0 0] 102)=w6 at HX HN⊢;refine⟨HX.out.mod,?_⟩;iterate 1 (first | (apply sk rfl rfl;simp only [pt]) | (apply dV rfl rfl rfl;·(rintro w' ⟨t0,t1,t2,t3,t4,t5,t6,t7,t8,t9,t10,t11,t12,t13⟩;go_wp2;exact⟨rfl,rfl,rfl⟩)))
 refine eF ?_;refine aA ?_;clear HX s2 s23 s34 s45 hXs QH;generalize w2.heap.size=a at HN;generalize w3.heap.size=s3 at HN;generalize w4.heap.size=s4 at HN;generalize w5.heap.size=X at HN⊢;have x11:w6.cell? ⟨X,11,none⟩=some (.slice b5 m.elems.length k5):=HN.out.jq.cell 11;go_wp2_with fail;clear x11;refine eC (fun a' w'=>∃(i:Nat) (sp:yr),a'=fr (gs a' 0 6 (.pointer (some ⟨X,0,none⟩)::gs a' 7 33 (.slice b5 m.elems.length k5:: .int .i64 m.elems.length:: .int .i64 i::gs a' 43 108 [])))/\i <=m.elems.length/\gH (gr m) (m.elems.take i)=some sp/\sL w m w' X ⟨.slice b0 m.types.length k0, .slice b1 m.imports.length k1, .slice b2 m.funcs.length k2, .slice b3 m.globals.length k3, .slice b4 m.dY.length k4, .slice b5 m.elems.length k5, .slice b6 m.eh.length k6, .slice b7 m.eA.length k7⟩ (.pointer pm) Xs a s3 s4 X sp) (fun a' _=>(m.elems.length - (intOf (a'.tmps.getD 42 undef)).toNat)) ?_ ?_
 ·exact⟨0,gr m,rfl,bB _,rfl,HN.out⟩
 ·skip
  rintro R a' w1 ⟨i,sp,Lv,hJ⟩ HR;dsimp only [fr,gs]at Lv;generalize slot a'=f at Lv;subst Lv;obtain⟨hi,hel,hnw⟩:=hJ;have HEL:=V hel;have HNW:=V hnw;clear hel hnw HN;by_cases q:i < m.elems.length
  ·obtain⟨e,he⟩:∃e,m.elems[i]?=some e:=⟨_,aq q⟩
   obtain⟨be,offe,cape,ue,MK,-,-,hbel,LM,Ml⟩:=ef.at HNW.out.mod.2.2.2.2.2.1 he;injection MK with e1 e2 e3;subst e1 e3;obtain⟨af,cf,hfe,-,hcfm⟩:=Ml.1.sl;have y0:w1.cell? ⟨be,offe+i*2,none⟩=some (.int .i64 e.off):=by
    have:=(fP (LM 0 _ rfl)).2
    rwa [aI]at this
   have y1:w1.cell? ⟨be,offe+i*2+1,none⟩=some (.slice af e.funcs.length cf):=by
    rw [<- hfe];exact(fP (LM 1 _ rfl)).2
   have HEE:=V he;have MI:=(an w1.heap.size w1).alloc (ag _) (.cells #[.int .i64 e.off, .slice af e.funcs.length cf] 77);have Mm:=V MI;have Nw:=V (eD.new w1 #[.int .i64 e.off, .slice af e.funcs.length cf] 77).drew;have HF:=V (show ee 1 eU w1 (.slice af e.funcs.length cf) e.funcs by rw [<- hfe];exact Ml.1.fK);have LI:=V ((HNW.out.jq.alloc (.cells #[.int .i64 e.off, .slice af e.funcs.length cf] 77)).drew);have Oz:World.cell? _ ⟨X,15,none⟩=some (.pointer (some ⟨Xs,0,none⟩)):=LI.out.cell 15;have v0:World.cell? _ ⟨w1.heap.size,0,none⟩=some (.int .i64 e.off):=Nw.out.cell 0;have v1:World.cell? _ ⟨w1.heap.size,1,none⟩=some (.slice af e.funcs.length cf):=Nw.out.cell 1;clear he LM Ml hfe e2 hbel MI;go_wp2_with fail;refine ea (fun w'=>w'.cell? ⟨X,15,none⟩=some (.pointer (some ⟨Xs,0,none⟩))/\w'.cell? ⟨w1.heap.size,0,none⟩=some (.int .i64 e.off)/\w'.cell? ⟨w1.heap.size,1,none⟩=some (.slice af e.funcs.length cf)) (up 0 8 ((8,false)::(9,true)::[])) (by kernel_rfl) (by kernel_rfl) ⟨Oz,v0,v1⟩ ?_;clear Oz v0 v1 y0 y1;have HNA:=V (HNW.out.keeps (P:=fun _=>False) (dU.dW Mm.out.drew) (fun _ h=>h.elim) (nx.keeps (P:=fun _=>False) HNW.out.space HNW.out.xs.1 (dU.dW Mm.out.drew) (fun _ h=>h.elim)));have HF2:=V (HF.out.ext (Ext.dW Mm.out.drew));clear HNW HF Mm;generalize(w1.alloc (.cells #[.int .i64 e.off, .slice af e.funcs.length cf] 77)).drew=w7 at HNA HF2 LI Nw⊢;iterate 8 (first | (apply sk rfl rfl;simp only [pt]) | (apply dV rfl rfl rfl;·(rintro w' ⟨t0,t1,t2⟩;go_wp2;exact⟨rfl,rfl,rfl⟩)))
   refine dZ rfl rfl ?_;go_wp2_with fail;refine(xC w7 s4 Xs sp (.slice af e.funcs.length cf) e.off e.funcs HNA.out.space HF2.out).mono ?_;rintro en w8 ⟨rfl,hs8,Nn⟩;have hXn:=nx.Fe (B:=s4) LI.out (by decide);have hEn:=nx.Fe (B:=s4) Nw.out (by decide);have HX8:=V (LI.out.keeps Nn hXn);have HE8:=V (Nw.out.keeps Nn hEn);have HN8:=V (HNA.out.keeps Nn (fun g hg=>⟨hg.1,fun e=>by subst e;exact hXn hg⟩) hs8);clear hXn hEn hs8 Nn HNA LI Nw;obtain⟨r,hr⟩:∃r,iD sp e.off e.funcs=r:=⟨_,rfl⟩;rw [hr]at HN8⊢;have HT:=V (show gH (gr m) (m.elems.take (i+1))=r by rw [aR,HEE.out,Option.toList_some,qf,HEL.out];exact hr);clear hr;cases r with
   | none=>
    simp only [Option.isSome_none];go_wp2_with fail;refine⟨⟨HX8.out.cell 15,HE8.out.cell 0,HE8.out.cell 1⟩,?_⟩;iterate 1 (first | (apply sk rfl rfl;simp only [pt]) | (apply dV rfl rfl rfl;·(rintro w' ⟨t0,t1,t2⟩;go_wp2;exact⟨rfl,rfl,rfl⟩)))
    refine eF ?_;refine aA ?_;go_wp2
    go_ret2
    exact⟨HN8.out.below, .inr (.inl ⟨HV.out,qc HT.out,rfl⟩)⟩
   | some sp2=>
    simp only [Option.isSome_some];go_wp2_with fail;refine⟨⟨HX8.out.cell 15,HE8.out.cell 0,HE8.out.cell 1⟩,?_⟩;iterate 1 (first | (apply sk rfl rfl;simp only [pt]) | (apply dV rfl rfl rfl;·(rintro w' ⟨t0,t1,t2⟩;go_wp2;exact⟨rfl,rfl,rfl⟩)))
    refine eF ?_;refine aA ?_;go_wp2;refine HR.out _ _ ⟨i+1,sp2,rfl,by omega,HT.out,HN8.out⟩ ?_;simp [intOf];omega
  ·obtain rfl:i=m.elems.length:=by omega
   rw [aU]at HEL;have hdl:m.eA.length=0:=by rw [HND.out];rfl
   have x13:w1.cell? ⟨X,13,none⟩=some (.slice b7 m.eA.length k7):=HNW.out.jq.cell 13;rw [hdl]at x13;have x14:w1.cell? ⟨X,14,none⟩=some (.pointer pm):=HNW.out.jq.cell 14;clear hdl HR q;go_wp2_with fail;clear x13;refine dq 1 ?_;rw [cI];go_wp2_with fail;clear x14;refine(Bw w1 (rJ s3 s4) (.pointer pm) (iT m.mem) HNW.out.mem).mono ?_;rintro en w7 ⟨rfl,hm7,hk7⟩;rw [xW]at hm7;have RI:=V (HNW.out.clean hk7 hm7);clear hm7 hk7 HNW;have HJ:=V (show xj w7.heap.size w7 X ⟨.slice b0 m.types.length k0, .slice b1 m.imports.length k1, .slice b2 m.funcs.length k2, .slice b3 m.globals.length k3, .slice b4 m.dY.length k4, .slice b5 m.elems.length k5, .slice b6 m.eh.length k6, .slice b7 m.eA.length k7⟩ (.pointer pm) (.pointer (some ⟨Xs,0,none⟩)) m (.slice none 0 0) []from
    ⟨RI.out.jq,dS.nil _ _,fun i j c h=>by simp at h⟩)
   have x12:w7.cell? ⟨X,12,none⟩=some (.slice b6 m.eh.length k6):=RI.out.jq.cell 12;go_wp2_with fail;clear x12;refine eC (fun a' w'=>∃(k:Nat) (vj:Value) (js:List Nat),a'=fr (gs a' 0 6 (.pointer (some ⟨X,0,none⟩)::gs a' 7 108 (.slice b6 m.eh.length k6:: .int .i64 m.eh.length:: .int .i64 k::gs a' 118 33 [])))/\(k <=m.eh.length/\js.length=k)/\xj w7.heap.size w' X ⟨.slice b0 m.types.length k0, .slice b1 m.imports.length k1, .slice b2 m.funcs.length k2, .slice b3 m.globals.length k3, .slice b4 m.dY.length k4, .slice b5 m.elems.length k5, .slice b6 m.eh.length k6, .slice b7 m.eA.length k7⟩ (.pointer pm) (.pointer (some ⟨Xs,0,none⟩)) m vj js/\dU (fun i=>i=X) w7 w') (fun a' _=>(m.eh.length - (intOf (a'.tmps.getD 117 undef)).toNat)) ?_ ?_
   ·exact⟨0,_,[],rfl,⟨bB _,rfl⟩,HJ.out,dU.refl _ _⟩
   ·clear HJ
    rintro R a' w8 ⟨k,vj,js,Lv,hJ⟩ HR;dsimp only [fr,gs]at Lv;generalize slot a'=f at Lv;subst Lv;obtain⟨⟨hk,hjl⟩,hj,Nn⟩:=hJ;subst hjl;have HJ:=V hj;have HK:=V Nn;have HN8:=V (RI.out.mod.ext (iC (S':=fun i=> !rJ a s3 i) Nn (fun i _ hp=>by have:=RI.out.ord;subst hp;simp [rJ];omega) (fun _ _ h=>h)));clear hj Nn;by_cases q:js.length < m.eh.length;rotate_left
    ·have hjl:js.length=m.eh.length:=by omega
     go_wp2
     go_ret2
     obtain⟨o1,o2,o3,o4,o5,o6⟩:=RI.out.ord;have h78:=HK.out.size;have hXn:X < w8.heap.size:=by omega
     have hFX:∀g,(rJ a s3 g || decide (g=X) || rJ w7.heap.size w8.heap.size g)=true↔(a <=g/\g < s3)\/g=X\/(w7.heap.size <=g/\g < w8.heap.size):=fun g=>by simp [rJ,or_assoc]
     have hFS:∀g,(rJ s4 w7.heap.size g&& !decide (g=X))=true↔(s4 <=g/\g < w7.heap.size)/\g≠X:=fun g=>by simp [rJ]
     obtain⟨v,v',p1,p2,p3⟩:=RI.out.space;have hxs:=RI.out.xs;refine⟨RI.out.below.trans (HK.out.below RI.out.below.size (fun g hg=>by omega)), .inr (.inr ⟨X,fun g=>rJ a s3 g || decide (g=X) || rJ w7.heap.size w8.heap.size g,rJ s3 s4,fun g=>rJ s4 w7.heap.size g&& !decide (g=X),_,sp,HV.out,HEL.out,rfl,⟨HJ.out.jq,(hFX X).2 (.inr (.inl rfl)),HN8.out.ext (iC (P:=fun _=>False) (dU.refl _ _) (fun _ _ h=>h.elim) (fun g _ hg=>?_)),HJ.out.row.lower (bB _),fun g hg=>(hFX g).2 (.inr (.inr (ey HJ.out.row hg))),fun i j c hj hc=>?_,hjl,fun g hg=>?_⟩,
      RI.out.mem.keeps HK.out (fun g hg=>?_),⟨Xs,v,v',rfl,p1.keeps HK.out (by omega),(p2.lower (bB _)).keeps HK.out (fun g hg e=>dS.fV p2 RI.out.jq (by decide) g hg e),(p3.lower (bB _)).keeps HK.out (fun g hg e=>dS.fV p3 RI.out.jq (by decide) g hg e),(hFS Xs).2 ⟨⟨hxs.1,p1.lt⟩,by omega⟩,
       fun g hg=>(hFS g).2 ⟨ey p2 hg,dS.fV p2 RI.out.jq (by decide) g hg⟩,fun g hg=>(hFS g).2 ⟨ey p3 hg,dS.fV p3 RI.out.jq (by decide) g hg⟩⟩,fun g hg=>?_,fun g=>⟨fun h1=>⟨?_,?_⟩,fun h1=>?_⟩⟩)⟩
     ·cases hr:rJ a s3 g with
      | false=>rfl
      | true=>simp [hr]at hg
     ·obtain⟨h1,h2⟩:=HJ.out.maps i j c hj hc
      exact⟨h1,(hFX j).2 (.inr (.inr ⟨h2,h1.lt⟩))⟩
     ·rcases(hFX g).1 hg with h1 | h1 | h1 <;>omega
     ·cases hr:rJ s3 s4 g with
      | false=>rfl
      | true=>have:=kx.1 hr;omega
     ·rcases hg with h1 | h1 | h1
      ·rcases(hFX g).1 h1 with h1 | h1 | h1 <;>omega
      ·have:=kx.1 h1;omega
      ·have:=(hFS g).1 h1;omega
     ·cases hr:rJ s3 s4 g with
      | false=>rfl
      | true=>have:=kx.1 hr;rcases(hFX g).1 h1 with h1 | h1 | h1 <;>omega
     ·cases hr:(rJ s4 w7.heap.size g&& !decide (g=X))with
      | false=>exact hr
      | true=>have:=(hFS g).1 hr;rcases(hFX g).1 h1 with h1 | h1 | h1 <;>omega
     ·have:=kx.1 h1
      cases hr:(rJ s4 w7.heap.size g&& !decide (g=X))with
      | false=>exact hr
      | true=>have:=(hFS g).1 hr;omega
    ·obtain⟨c,hc⟩:∃c,m.eh[js.length]?=some c:=⟨_,aq q⟩
     obtain⟨bc,PA,capc,⟨uc1,uc2⟩,MK,-,-,hbcl,LM,Ml⟩:=ef.at HN8.out.2.2.2.2.2.2.1 hc;injection MK with e1 e2 e3;subst e1 e3;obtain⟨al,cl,hle,-,hclm⟩:=Ml.1.1.sl;obtain⟨ab,cb,PF,-,hcbm⟩:=ef.slice Ml.1.2;simp only at hle PF;have y0:w8.cell? ⟨bc,PA+js.length*2,none⟩=some (.slice al c.locals.length cl):=by
      have:=(fP (LM 0 _ rfl)).2;rw [<- hle]
      rwa [aI]at this
     have y1:w8.cell? ⟨bc,PA+js.length*2+1,none⟩=some (.slice ab c.body.length cb):=by
      rw [<- PF];exact(fP (LM 1 _ rfl)).2
     have Re:=V (show gu w8 (.slice ab c.body.length cb) c.body by rw [<- PF];exact gu.fK Ml.1.2);have HCC:=V hc;have HME:=V ((Ni.out.1.1.2.2 c (aN hc)).1);have MI:=(an w8.heap.size w8).alloc (ag _) (.cells #[.slice al c.locals.length cl, .slice ab c.body.length cb] 41);have v1:=(eD.new w8 #[.slice al c.locals.length cl, .slice ab c.body.length cb] 41).two.2.1;have Mm:=V MI;have HRO:=HR;clear hc LM Ml hle PF e2 hbcl MI HR;go_wp2_with fail;clear y0 y1 v1;refine(pI _ c.body _ (Re.out.below Mm.out)).mono ?_;rintro en w10 ⟨hb,⟨bs,vb,Qa,rfl,Me⟩ | ⟨Qa,-⟩⟩;rotate_left
     ·have:=HME.out
      rw [Qa]at this;cases this
     obtain⟨av,cv,rfl,hcv1,hcvm⟩:=Me.slice;have HMS:=V Qa;have HB10:=V (Mm.out.trans (hb.mono Mm.out.size));have hbm:=(an w10.heap.size w10).alloc (ag _) (.map #[] 0);have HBM:=V hbm;have HBO:=V (Me.below hbm);have HJM:=V (fR.new w10);have Px:=fun wx=>run_makeMap (P:=prog) 112 wx;have hvo:=V (fun g (hg:ez (.slice av bs.length cv) g)=>(ey Me hg).2);clear hb Me hbm Qa Mm Re;go_wp2_with fail;clear Px;obtain⟨j,hj⟩:∃j,j=w10.heap.size:=⟨_,rfl⟩;have hj1:j < (w10.alloc (.map #[] 0)).heap.size:=by rw [aC];omega
     have HVO:=V (show∀g,ez (.slice av bs.length cv) g ->g < j from fun g hg=>by have:=hvo.out g hg;omega);have hj8:w8.heap.size <=j:=by have:=HB10.out.size;omega
     rw [<- hj]at HJM⊢;have HB11:=V (HB10.out.alloc HB10.out.size (.map #[] 0));clear hj hvo HBM HB10;generalize w10.alloc (.map #[] 0)=Pq at HBO HJM HB11 hj1⊢;refine eC (fun a' w'=>∃(i:Nat),a'=fr (gs a' 0 6 (.pointer (some ⟨X,0,none⟩)::gs a' 7 10 (.map (some j)::gs a' 18 97 (.slice (some ⟨bc,PA,none⟩) m.eh.length k6:: .int .i64 m.eh.length:: .int .i64 js.length::gs a' 118 10 (.slice av bs.length cv:: .int .i64 bs.length:: .int .i64 i::gs a' 131 20 [])))))/\i <=bs.length/\fR w' j (bs.take i)/\dU (fun g=>g=j) Pq w') (fun a' _=>(bs.length - (intOf (a'.tmps.getD 130 undef)).toNat)) ?_ ?_
     ·exact⟨0,rfl,bB _,HJM.out,dU.refl _ _⟩
     ·clear HJM
      rintro R a' w12 ⟨i,Lv,hJ⟩ HR;dsimp only [fr,gs]at Lv;generalize slot a'=f at Lv;subst Lv;obtain⟨hi,hjm,QK⟩:=hJ;have HJM:=V hjm;have HK12:=V QK;have HBO12:=V (HBO.out.keeps QK (fun g hg e=>by have:=HVO.out g hg;omega));clear hjm QK;by_cases q2:i < bs.length
      ·obtain⟨b,hb⟩:∃b,bs[i]?=some b:=⟨_,aq q2⟩
       obtain⟨bb,offb,capb,MK,hcap1,-,-,LM⟩:=ee.at (HBO12.out.fH jf) hb;injection MK with e1 e2 e3;subst e1 e3;have y0:=LM 0 _ rfl;have y1:=LM 1 _ rfl;have y2:=LM 2 _ rfl;rw [aI]at y0;have HBI:=V hb;have hbp:=AK HMS.out b (aN hb);have hkey:keyOf prog 3 (.int .i64 b.pos)=some (.int .i64 b.pos):=Maps.keyOf_int_mk Jm (WalkArith.wf_i64 (by omega));have HKEY:=V hkey;have NF:=(an w12.heap.size w12).alloc (ag _) (.cells (xr b).toArray 114);have RA:=V NF;obtain⟨n,hn,Lu⟩:=HJM.out.below NF;have Pw:=V Lu;have HNN:=V hn;have hnm:n < maxLen:=by rw [List.length_take]at hn;unfold maxLen;omega
       have HNM:=V hnm;clear hb LM e2 hkey NF hn Lu hnm hcap1 hbp;go_wp2_with (first | (at_mapUpdate;refine wpList_mapUpdate_own _ rfl _ _ _ 112 rfl 3 114 (Maps.int_keyed Jm) JE CX j n (yY (bs.take i)) rfl Pw.out HNM.out _ _ (.int .i64 b.pos) rfl rfl HKEY.out (I6 b) [] rfl ?_));intro w13 hown13 PB;have HJ13:=V (show fR w13 j (bs.take (i+1))from⟨n+1,by have:=HNN.out;rw [aP]at this⊢;omega,by rw [aR,HBI.out,Option.toList_some,BW];exact hown13⟩);have HK13:=V ((HK12.out.trans (dU.dW (S:=fun _=>False) RA.out) (fun _ h=>h.elim)).trans (AA PB) (fun _ h=> .inl h));clear hown13 PB y0 y1 y2 Pw HNM HKEY;go_wp2;refine HR.out _ _ ⟨i+1,rfl,by omega,HJ13.out,HK13.out⟩ ?_;simp [intOf];omega
      ·obtain rfl:i=bs.length:=by omega
       rw [aU]at HJM;obtain⟨aj,cj,hvj,-,hcjm⟩:=HJ.out.row.slice;subst hvj;have hX12:=(HJ.out.jq.below HB11.out HJ.out.jq.lt).keeps HK12.out (by have:=HJ.out.jq.lt;omega);have x16:w12.cell? ⟨X,16,none⟩=some (.slice aj js.length cj):=hX12.cell 16;have Q8:=V (show dS 112 1 yv w12 w7.heap.size (.slice aj js.length cj) js from(HJ.out.row.below HB11.out).keeps HK12.out (fun g hg e=>by have:=(ey HJ.out.row hg).2;omega));have HX12:=V hX12;have hsz7:w7.heap.size <=w12.heap.size:=by have:=HK.out.size;have:=HB11.out.size;have:=HK12.out.size;omega
       clear hX12 HR q2;go_wp2_with (first | (at_builtin;refine fb w12 rfl _ _ 100 rfl _ 8 (by kernel_rfl) DD rfl (by decide) (by decide) w7.heap.size (.slice aj js.length cj) js rfl Q8.out j _ rfl rfl (Fz _) rfl (by omega) hsz7 ?_));intro v14 w14 ho hk14 hs14;obtain⟨a2,c2,hv14,-,-⟩:=ho.slice;rw [ah,aB]at hv14;subst hv14;have hX14:=HX12.out.keeps hk14 (fun hg=>dS.fV Q8.out HX12.out (by decide) X hg rfl);have x16:w14.cell? ⟨X,16,none⟩=some (.slice aj js.length cj):=hX14.cell 16;have z16:=hX14.free 16;have HM:=V (xj.more (c:=c) HJ.out HB11.out hj8 HK12.out HCC.out (show fR w12 j (oa c)by unfold oa;rw [HMS.out];exact HJM.out) (by have:=HK.out.size;omega) ho hk14);have PV:=V ((((HK.out.trans (dU.dW (S:=fun _=>False) HB11.out) (fun _ h=>h.elim)).trans HK12.out (fun g hg=> .inr (by have:=HK.out.size;omega))).trans hk14 (fun g hg=> .inr (ey Q8.out hg).1)).trans (ei w14 X 16 (.slice a2 (js.length+1) c2)) (fun g hg=> .inl hg));clear hX14 ho hk14 hs14;go_wp2_with fail;refine HRO.out _ _ ⟨js.length+1,_,js++[j],rfl,⟨by omega,by simp⟩,HM.out,PV.out⟩ ?_;simp [intOf];omega
section
def IW (m:eu) (w:World) (e:Ending) (w':World):Prop:=
 ∃X b F FX iv,e= .returned (.tuple #[.pointer (some ⟨b,0,none⟩), .int .i64 0])/\jc w' F FX X b iv m ⟨⟨0,0,0,[]⟩,0,0,(0,0)⟩ ⟨[],[],-1⟩/\(∀i,F i=false ->w.heap.size <=i)/\Below w.heap.size w w'
theorem GI (m:eu) (u:eE) (w:World) (sp:yr) (hm:eo w u m) (hs:m.words) (he:∀c∈m.eh,∀x∈c.body,x.ot) (hn:m.imports.length+m.funcs.length <=1000000) (hd:m.eA=[]) (hfa:iW m= -1) (Qc:gH (gr m) m.elems=some sp):
  Calls prog 7 #[.agg (u.cells m)] w (IW m w):=by
 have HFA:=V hfa;have Qw:=V Qc;have Q7:=V hs;have HE:=V he;have HD:=V hd;obtain⟨a0,c0,a1,c1,a2,c2,a3,c3,a4,c4,a5,c5,a6,c6,a7,c7,rfl⟩:=eo.open hm;have hb:=(an w.heap.size w).alloc (ag _) (.cells (eE.cells ⟨.slice a0 m.types.length c0, .slice a1 m.imports.length c1, .slice a2 m.funcs.length c2, .slice a3 m.globals.length c3, .slice a4 m.dY.length c4, .slice a5 m.elems.length c5, .slice a6 m.eh.length c6, .slice a7 m.eA.length c7⟩ m) 35);have HI:=V (hm.ext (Ext.dW hb));have hx:=eD.new w (eE.cells ⟨.slice a0 m.types.length c0, .slice a1 m.imports.length c1, .slice a2 m.funcs.length c2, .slice a3 m.globals.length c3, .slice a4 m.dY.length c4, .slice a5 m.elems.length c5, .slice a6 m.eh.length c6, .slice a7 m.eA.length c7⟩ m) 35;simp only [eE.cells]at hx hb HI⊢;obtain⟨g0,g1,g2,g3,g4,g5,g6,g7,g8,g9,L8,Mb,Mc,Md⟩:=hx.mod;have HB:=V hb;clear hfa Qc hs he hd hm hb hx;go_enter func7,ntmps7;go_wp2_with fail;clear g0 g1 g2 g3 g4 g5 g6 g7 g8 g9 L8 Mb Mc Md;refine(lH m ⟨.slice a0 m.types.length c0, .slice a1 m.imports.length c1, .slice a2 m.funcs.length c2, .slice a3 m.globals.length c3, .slice a4 m.dY.length c4, .slice a5 m.elems.length c5, .slice a6 m.eh.length c6, .slice a7 m.eA.length c7⟩ _ HI.out Q7.out HE.out hn HD.out).mono ?_;rintro x w2 ⟨Lw,⟨hr,-⟩ | ⟨-,hr,-⟩ | ⟨X,FX,_,_,iv,_,-,-,rfl,Ml,-,-,hge,-⟩⟩
 ·exact absurd HFA.out hr
 ·exact absurd (Qw.out.symm.trans hr) (by simp)
 have HB:=V (dT HB.out Lw);have L9:=V Ml;clear hge Ml Lw;go_wp2_with fail;refine aF (results_tmp2 rfl _ _ _) rfl ?_;refine⟨X,w2.heap.size,_,FX,iv,rfl,jc.new L9.out,fun i hi=>?_,dT HB.out ((an w2.heap.size w2).alloc (ag _) _)⟩;have:=HB.out.size;have:=of_decide_eq_false hi;omega
def JG (o:gT) (w:World) (e:Ending) (w':World):Prop:=∃vv,e= .returned (lS o vv)/\dS 52 2 fD w' w.heap.size vv o.dX/\Below w.heap.size w w'
section
variable {w:World} {F FX:Nat ->Bool} {X b:Nat} {iv:ly} {m:eu} {q:yD} {s:fy}
theorem Bq (h:jc w F FX X b iv m q s):Calls prog 14 #[.pointer (some ⟨b,0,none⟩)] w (fi (.complex .f64 (fl q.n) (fl 0)) w):=by
 obtain⟨a,c,⟨y0,y4,y5,y6,y7,y8,y9,y10⟩,-,-⟩:=h.cells;go_enter func14,ntmps14;go_wp2;go_ret;exact⟨rfl,an _ _⟩
theorem Ci (h:jc w F FX X b iv m q s):Calls prog 12 #[.pointer (some ⟨b,0,none⟩)] w (fi (.int .i64 q.calls) w):=by
 obtain⟨a,c,⟨y0,y4,y5,y6,y7,y8,y9,y10⟩,-,-⟩:=h.cells;go_enter func12,ntmps12;go_wp2;go_ret;exact⟨rfl,an _ _⟩
theorem D3 (h:jc w F FX X b iv m q s):Calls prog 16 #[.pointer (some ⟨b,0,none⟩)] w (fi (.complex .f64 (fl q.GM.1) (fl q.GM.2)) w):=by
 obtain⟨a,c,⟨y0,y4,y5,y6,y7,y8,y9,y10⟩,-,-⟩:=h.cells;go_enter func16,ntmps16;go_wp2;go_ret;exact⟨rfl,an _ _⟩
theorem DA (h:jc w F FX X b iv m q s):Calls prog 15 #[.pointer (some ⟨b,0,none⟩)] w (fi (.pointer (some ⟨X,0,none⟩)) w):=by
 obtain⟨a,c,⟨y0,y4,y5,y6,y7,y8,y9,y10⟩,-,-⟩:=h.cells;go_enter func15,ntmps15;go_wp2;go_ret;exact⟨rfl,an _ _⟩
theorem tp (h:jc w F FX X b iv m q s):Calls prog 11 #[.pointer (some ⟨b,0,none⟩)] w (JG q.o w):=by
 have LR:=(an w.heap.size w).alloc (ag _) (.cells #[.int .i64 0, .int .i64 0, .int .i64 0, .slice none 0 0] 49);have HX:=V (eD.new w #[.int .i64 0, .int .i64 0, .int .i64 0, .slice none 0 0] 49);obtain⟨a,c,⟨y0,y4,y5,y6,y7,y8,y9,y10⟩,hv,-⟩:=(h.below LR).cells;have HV:=V hv;have HB:=V LR;have P3:=h.KI;clear hv LR h;go_enter func11,ntmps11;go_wp2_with fail;clear y0 y4 y5 y6 y7 y8 y9 y10;have Mq:=aC w (.cells #[.int .i64 0, .int .i64 0, .int .i64 0, .slice none 0 0] 49);generalize(w.alloc (.cells #[.int .i64 0, .int .i64 0, .int .i64 0, .slice none 0 0] 49))=w1 at HX HV HB Mq⊢;have LG:=(an w1.heap.size w1).alloc (ag _) (.cells #[.int .i64 q.o.kind, .int .i64 q.o.ky, .int .i64 q.o.fn, .slice a q.o.dX.length c] 49);have HY:=V (eD.new w1 #[.int .i64 q.o.kind, .int .i64 q.o.ky, .int .i64 q.o.fn, .slice a q.o.dX.length c] 49);have HYX:=V (show w.heap.size < w1.heap.size from HX.out.lt);replace HX:=V (HX.out.below LG HX.out.lt);replace HV:=V (HV.out.below LG);replace HB:=V (HB.out.trans (LG.mono HB.out.size));clear LG;rw [Mq]at HY HYX;obtain⟨Y,hY⟩:∃Y,Y=w.heap.size+1:=⟨_,rfl⟩;rw [<- hY]at HY HYX⊢;clear hY Mq;generalize(w1.alloc (.cells #[.int .i64 q.o.kind, .int .i64 q.o.ky, .int .i64 q.o.fn, .slice a q.o.dX.length c] 49))=w2 at HX HV HB HY⊢;have HBL:=V HX.out.lt;refine(mP _ q.o.dX w2 HV.out (by omega)).mono ?_;rintro e w3 ⟨vv,rfl,ho,hb⟩;obtain⟨a2,c2,rfl,-,-⟩:=ho.slice;replace HX:=V (HX.out.below hb HX.out.lt);replace HY:=V (HY.out.below hb HY.out.lt);have HBS:=V HB.out.size;replace HB:=V (HB.out.trans (hb.mono HB.out.size));have HO:=V ho;clear ho hb;have z3:=HY.out.free 3;have k3:w3.cell? ⟨Y,3,none⟩=some (.slice a q.o.dX.length c):=HY.out.cell 3;have Lx:=ei w3 Y 3 (.slice a2 q.o.dX.length c2);have LI:=V (HX.out.keeps Lx (by have:=HYX.out;omega));have MX:=V (HO.out.keeps Lx (fun g hg e=>dS.fV HO.out HY.out (by decide) g hg e));have LY:=V (HB.out.trans (Lx.below HB.out.size (fun i hi=>by have:=HYX.out;omega)));have HY2:=HY.out.set 3 (.slice a2 q.o.dX.length c2);obtain⟨⟨u0,u1,u2,u3⟩,-,-,-,-⟩:=eD.four HY2;obtain⟨⟨x0,x1,x2,x3⟩,v0,v1,v2,v3⟩:=LI.out.four;clear Lx HX HO HB HY;go_wp2_with fail;refine aF (ej rfl _ _ rfl (kq LI.out rfl q.o.kind q.o.ky q.o.fn (.slice a2 q.o.dX.length c2))) rfl ?_;have hpo:=gh (w3.setCell ⟨Y,3,none⟩ (.slice a2 q.o.dX.length c2)) w.heap.size q.o.kind q.o.ky q.o.fn (.slice a2 q.o.dX.length c2);exact⟨_,rfl,(MX.out.keeps hpo (fun g hg e=>by have:=(ey MX.out hg).1;have:=HBL.out;omega)).lower HBS.out,LY.out.trans (hpo.below LY.out.size (fun i hi=>by omega))⟩
end
end
def yn (b off b2 LX k:Nat) (e d:Int) (w:World):Prop:=w.cell? ⟨b,off+k,none⟩=some (.int .i64 e)/\w.cell? ⟨b2,LX+k,none⟩=some (.int .i64 d)
theorem kJ (va vb:Value) (la lb:List Int) (w:World) (ha:ee 1 eU w va la) (hb:ee 1 eU w vb lb):Calls prog 91 #[va,vb] w (nW la lb w):=by
 have HA:=V ha;have HB:=V hb;obtain⟨a,cap,rfl,h1,h2,_⟩:=ha;obtain⟨a2,LA,rfl,h3,h4,_⟩:=hb;unfold maxLen at h2 h4;by_cases hlen:la.length=lb.length;rotate_left
 ·have f1:(((la.length:Int)) !=((lb.length:Int)))=true:=fa (by omega)
  have HL:=V hlen;clear hlen;go_enter func91,ntmps91;go_wp2;go_ret;exact⟨false,rfl,⟨fun h=>(by cases h),fun h=>absurd (cU List.length h) HL.out⟩,an _ _⟩
 rw [<- hlen]at h3⊢;have HL:=V hlen;clear hlen;go_enter func91,ntmps91;go_wp2_with fail;refine eC (fun a' w'=>∃(k:Nat),a'=fr (.slice a la.length cap:: .slice a2 la.length LA::gs a' 2 10 (.int .i64 la.length:: .int .i64 k::gs a' 14 12 []))/\AS la lb w w' k) (fun a' _=>(la.length - (intOf (a'.tmps.getD 13 undef)).toNat)) ?_ ?_
 ·exact⟨0,rfl,by omega,rfl,an _ _⟩
 ·skip
  rintro R a' w1 ⟨k,Lv,hJ⟩ HR;dsimp only [fr,gs]at Lv;generalize slot a'=f at Lv;subst Lv;obtain⟨hk,O2,hb⟩:=hJ;have HT:=V O2;clear O2;by_cases Mi:k < la.length;rotate_left
  ·skip
   obtain rfl:k=la.length:=by omega
   go_wp2;go_ret;refine⟨true,rfl,⟨fun _=>?_,fun _=>rfl⟩,hb⟩;have:=HT.out;rw [aU,HL.out,aU]at this;exact this
  obtain⟨e,he⟩:∃e,la[k]?=some e:=⟨_,aq Mi⟩;obtain⟨d,hd⟩:∃d,lb[k]?=some d:=⟨_,aq (by have:=HL.out;omega)⟩;obtain⟨a',LQ,hv,_,_,Lt⟩:=HA.out.below (hb.mono (ag _));obtain⟨a2',cap2',MS,_,_,Mw⟩:=HB.out.below (hb.mono (ag _));injection hv with e1 e2 e3;injection MS with e4 e5 e6;subst e1 e3 e4 e6;obtain⟨b,off,rfl,LD,hc⟩:=Lt k e he;obtain⟨b2,LX,rfl,Nf,MF⟩:=Mw k d hd;have c0:=hc 0 _ rfl;have c2:=MF 0 _ rfl;rw [aI,aY]at c0 c2;have HE:=V he;have HD:=V hd;have cc:yn b off b2 LX k e d w1.drew:=⟨c0,c2⟩;have CC:=V cc;clear Lt Mw e2 e5 he hd hc MF c0 c2 cc;by_cases q1:e=d
  ·have f1:=kX q1
   have Q1:=V q1;clear q1;go_wp2_with fail;refine ea (yn b off b2 LX k e d) (up 0 9 []) (by kernel_rfl) (by kernel_rfl) CC.out ?_;iterate 8 (first | (apply sk rfl rfl;simp only [pt]) | (apply dV rfl rfl rfl;·(rintro w' ⟨t0,t1⟩;go_wp2;exact⟨rfl,rfl,rfl⟩)))
   iterate 1 (first | (apply sk rfl rfl;simp only [pt]) | (apply dV rfl rfl rfl;·(rintro w' ⟨t0,t1⟩;go_wp2;exact⟨rfl,rfl,rfl⟩)))
   refine eF ?_;refine aA ?_;go_wp2;refine HR.out _ _ ⟨k+1,rfl,by omega,?_,hb.drew⟩ ?_
   ·rw [aR,aR,HT.out,HE.out,HD.out,Q1.out]
   ·simp [intOf]
    omega
  ·have f1:=fa q1
   have HX:=V (show e≠d from q1);clear q1;go_wp2_with fail;refine ea (yn b off b2 LX k e d) (up 0 9 []) (by kernel_rfl) (by kernel_rfl) CC.out ?_;iterate 8 (first | (apply sk rfl rfl;simp only [pt]) | (apply dV rfl rfl rfl;·(rintro w' ⟨t0,t1⟩;go_wp2;exact⟨rfl,rfl,rfl⟩)))
   iterate 1 (first | (apply sk rfl rfl;simp only [pt]) | (apply dV rfl rfl rfl;·(rintro w' ⟨t0,t1⟩;go_wp2;exact⟨rfl,rfl,rfl⟩)))
   refine eF ?_;refine aA ?_;go_wp2;go_ret;refine⟨false,rfl,⟨fun h=>(by cases h),fun h=>?_⟩,hb.drew⟩;have h1:=HE.out;rw [h,HD.out]at h1;injection h1 with h1;exact(HX.out (by rw [h1])).elim
def tc (b off b2 LX k:Nat) (e d:iU) (w:World):Prop:=
 (w.cell? ⟨b,off+k*2,none⟩=some (.string e.name)/\w.cell? ⟨b,off+k*2+1,none⟩=some (.int .i64 e.func))/\
 w.cell? ⟨b2,LX+k*2,none⟩=some (.string d.name)/\w.cell? ⟨b2,LX+k*2+1,none⟩=some (.int .i64 d.func)
theorem DT {a b:ByteArray} (h:a.toList=b.toList):a=b:=by
 rw [cN,cN]at h;obtain⟨⟨x⟩⟩:=a;obtain⟨⟨y⟩⟩:=b;simpa using h
theorem xx (va vb:Value) (la lb:List iU) (w:World) (ha:ee 2 oZ w va la) (hb:ee 2 oZ w vb lb):Calls prog 336 #[va,vb] w (nW la lb w):=by
 have HA:=V ha;have HB:=V hb;obtain⟨a,cap,rfl,h1,h2,_⟩:=ha;obtain⟨a2,LA,rfl,h3,h4,_⟩:=hb;unfold maxLen at h2 h4;by_cases hlen:la.length=lb.length;rotate_left
 ·have f1:(((la.length:Int)) !=((lb.length:Int)))=true:=fa (by omega)
  have HL:=V hlen;clear hlen;go_enter func336,ntmps336;go_wp2;go_ret;exact⟨false,rfl,⟨fun h=>(by cases h),fun h=>absurd (cU List.length h) HL.out⟩,an _ _⟩
 rw [<- hlen]at h3⊢;have HL:=V hlen;clear hlen;go_enter func336,ntmps336;go_wp2_with fail;refine eC (fun a' w'=>∃(k:Nat),a'=fr (.slice a la.length cap:: .slice a2 la.length LA::gs a' 2 10 (.int .i64 la.length:: .int .i64 k::gs a' 14 12 []))/\AS la lb w w' k) (fun a' _=>(la.length - (intOf (a'.tmps.getD 13 undef)).toNat)) ?_ ?_
 ·exact⟨0,rfl,by omega,rfl,an _ _⟩
 ·skip
  rintro R a' w1 ⟨k,Lv,hJ⟩ HR;dsimp only [fr,gs]at Lv;generalize slot a'=f at Lv;subst Lv;obtain⟨hk,O2,hb⟩:=hJ;have HT:=V O2;clear O2;by_cases Mi:k < la.length;rotate_left
  ·skip
   obtain rfl:k=la.length:=by omega
   go_wp2;go_ret;refine⟨true,rfl,⟨fun _=>?_,fun _=>rfl⟩,hb⟩;have:=HT.out;rw [aU,HL.out,aU]at this;exact this
  obtain⟨e,he⟩:∃e,la[k]?=some e:=⟨_,aq Mi⟩;obtain⟨d,hd⟩:∃d,lb[k]?=some d:=⟨_,aq (by have:=HL.out;omega)⟩;obtain⟨a',LQ,hv,_,_,Lt⟩:=HA.out.below (hb.mono (ag _));obtain⟨a2',cap2',MS,_,_,Mw⟩:=HB.out.below (hb.mono (ag _));injection hv with e1 e2 e3;injection MS with e4 e5 e6;subst e1 e3 e4 e6;obtain⟨b,off,rfl,LD,hc⟩:=Lt k e he;obtain⟨b2,LX,rfl,Nf,MF⟩:=Mw k d hd;have c0:=hc 0 _ rfl;have c1:=hc 1 _ rfl;have c2:=MF 0 _ rfl;have c3:=MF 1 _ rfl;rw [aI]at c0 c2;have HE:=V he;have HD:=V hd;have cc:tc b off b2 LX k e d w1.drew:=⟨⟨c0,c1⟩,c2,c3⟩;have CC:=V cc;clear Lt Mw e2 e5 he hd hc MF c0 c1 c2 c3 cc;by_cases q1:e.name.toList=d.name.toList
  ·have f1:(e.name.toList==d.name.toList)=true:=by simp [q1]
   have Q1:=V q1;clear q1;by_cases q2:e.func=d.func
   ·have f2:=eI q2
    have Q2:=V q2;clear q2;go_wp2_with fail;refine ea (tc b off b2 LX k e d) (up 0 9 []) (by kernel_rfl) (by kernel_rfl) CC.out ?_;iterate 8 (first | (apply sk rfl rfl;simp only [pt]) | (apply dV rfl rfl rfl;·(rintro w' ⟨⟨t0,t1⟩,t2,t3⟩;go_wp2;exact⟨rfl,rfl,rfl⟩)))
    iterate 1 (first | (apply sk rfl rfl;simp only [pt]) | (apply dV rfl rfl rfl;·(rintro w' ⟨⟨t0,t1⟩,t2,t3⟩;go_wp2;exact⟨rfl,rfl,rfl⟩)))
    refine eF ?_;refine aA ?_;go_wp2;refine HR.out _ _ ⟨k+1,rfl,by omega,?_,hb.drew⟩ ?_
    ·rw [aR,aR,HT.out,HE.out,HD.out]
     obtain⟨x0,x1⟩:=e;obtain⟨y0,y1⟩:=d;have g0:=DT Q1.out;have g1:=Q2.out;simp only at g0 g1;rw [g0,g1]
    ·simp [intOf]
     omega
   ·have f2:=dR q2
    have HX:=V (show e.func≠d.func from q2);clear q2;go_wp2_with fail;refine ea (tc b off b2 LX k e d) (up 0 9 []) (by kernel_rfl) (by kernel_rfl) CC.out ?_;iterate 8 (first | (apply sk rfl rfl;simp only [pt]) | (apply dV rfl rfl rfl;·(rintro w' ⟨⟨t0,t1⟩,t2,t3⟩;go_wp2;exact⟨rfl,rfl,rfl⟩)))
    iterate 1 (first | (apply sk rfl rfl;simp only [pt]) | (apply dV rfl rfl rfl;·(rintro w' ⟨⟨t0,t1⟩,t2,t3⟩;go_wp2;exact⟨rfl,rfl,rfl⟩)))
    refine eF ?_;refine aA ?_;go_wp2;go_ret;refine⟨false,rfl,⟨fun h=>(by cases h),fun h=>?_⟩,hb.drew⟩;have h1:=HE.out;rw [h,HD.out]at h1;injection h1 with h1;exact(HX.out (by rw [h1])).elim
  ·have f1:(e.name.toList==d.name.toList)=false:=by simp [q1]
   have HX:=V (show e.name.toList≠d.name.toList from q1);clear q1;go_wp2_with fail;refine ea (tc b off b2 LX k e d) (up 0 9 []) (by kernel_rfl) (by kernel_rfl) CC.out ?_;iterate 8 (first | (apply sk rfl rfl;simp only [pt]) | (apply dV rfl rfl rfl;·(rintro w' ⟨⟨t0,t1⟩,t2,t3⟩;go_wp2;exact⟨rfl,rfl,rfl⟩)))
   iterate 1 (first | (apply sk rfl rfl;simp only [pt]) | (apply dV rfl rfl rfl;·(rintro w' ⟨⟨t0,t1⟩,t2,t3⟩;go_wp2;exact⟨rfl,rfl,rfl⟩)))
   refine eF ?_;refine aA ?_;go_wp2;go_ret;refine⟨false,rfl,⟨fun h=>(by cases h),fun h=>?_⟩,hb.drew⟩;have h1:=HE.out;rw [h,HD.out]at h1;injection h1 with h1;exact(HX.out (by rw [h1])).elim
theorem ld (w:World) (xs ys:Array Value) (t:TypeId):Below w.heap.size w ((w.alloc (.cells xs t)).alloc (.cells ys t))/\eD ((w.alloc (.cells xs t)).alloc (.cells ys t)) w.heap.size xs t/\eD ((w.alloc (.cells xs t)).alloc (.cells ys t)) (w.heap.size+1) ys t:=by
 refine⟨((an w.heap.size w).alloc (ag _) _).alloc (by simp) _,(eD.new w xs t).alloc _,?_⟩;have:=eD.new (w.alloc (.cells xs t)) ys t
 rwa [aC]at this
def nF (p:Prop) (w:World) (e:Ending) (w':World):Prop:=∃r:Bool,e= .returned (.bool r)/\(r=true↔p)/\Below w.heap.size w w'
theorem yA (c d:eP) (u x:Value) (w:World) (hu:ee 1 eU w u c.l) (hx:ee 1 eU w x d.l):
  Calls prog 330 #[.agg #[.int .i64 c.op, .int .i64 c.a, .int .i64 c.b,u], .agg #[.int .i64 d.op, .int .i64 d.a, .int .i64 d.b,x]] w (nF (c=d) w):=by
 have HU:=V hu;have LI:=V hx;obtain⟨au,LB,rfl,_,_,_⟩:=hu;obtain⟨ax,Mt,rfl,_,_,_⟩:=hx;obtain⟨hb,MI,Nk⟩:=ld w #[.int .i64 c.op, .int .i64 c.a, .int .i64 c.b, .slice au c.l.length LB] #[.int .i64 d.op, .int .i64 d.a, .int .i64 d.b, .slice ax d.l.length Mt] 39;have LK:=V hb;clear hb MI Nk;go_enter func330,ntmps330;by_cases q1:c.op=d.op;rotate_left
 ·have f1:=dR q1
  have HX:=V (show c.op≠d.op from q1);clear q1;go_wp2;go_ret;exact⟨false,rfl,⟨fun h=>(by cases h),fun h=>(HX.out (by rw [h])).elim⟩,LK.out⟩
 have f1:=eI q1;have Q1:=V q1;clear q1;by_cases q2:c.a=d.a;rotate_left
 ·have f2:=dR q2
  have HX:=V (show c.a≠d.a from q2);clear q2;go_wp2;go_ret;exact⟨false,rfl,⟨fun h=>(by cases h),fun h=>(HX.out (by rw [h])).elim⟩,LK.out⟩
 have f2:=eI q2;have Q2:=V q2;clear q2;by_cases q3:c.b=d.b;rotate_left
 ·have f3:=dR q3
  have HX:=V (show c.b≠d.b from q3);clear q3;go_wp2;go_ret;exact⟨false,rfl,⟨fun h=>(by cases h),fun h=>(HX.out (by rw [h])).elim⟩,LK.out⟩
 have f3:=eI q3;have Q3:=V q3;clear q3;go_wp2_with fail;refine(kJ _ _ c.l d.l _ (HU.out.below LK.out) (LI.out.below LK.out)).mono ?_;rintro y w2 ⟨r,rfl,hr,Lw⟩;have LY:=V (LK.out.trans (Lw.mono LK.out.size));have ND:=V hr;clear hr Lw;go_wp2;go_ret;refine⟨r,rfl,⟨fun h=>?_,fun h=>ND.out.2 (by rw [h])⟩,LY.out⟩;have g:=ND.out.1 h;obtain⟨p0,p1,p2,p3⟩:=c;obtain⟨s0,s1,s2,s3⟩:=d;have g1:=Q1.out;have g2:=Q2.out;have g3:=Q3.out;simp only at g g1 g2 g3;rw [g,g1,g2,g3]
theorem Am (va vb:Value) (la lb:List eP) (w:World) (ha:ef 4 rA gD w va la) (hb:ef 4 rA gD w vb lb):
  Calls prog 329 #[va,vb, .func (.func 330) #[] #[]] w (nW la lb w):=by
 have HA:=V ha;have HB:=V hb;obtain⟨a,cap,rfl,h1,h2⟩:=ha.slice;obtain⟨a2,LA,rfl,h3,h4⟩:=hb.slice;clear ha hb;by_cases hlen:la.length=lb.length;rotate_left
 ·have f1:(((la.length:Int)) !=((lb.length:Int)))=true:=fa (by omega)
  have HL:=V hlen;clear hlen;go_enter func329,ntmps329;go_wp2;go_ret;exact⟨false,rfl,⟨fun h=>(by cases h),fun h=>absurd (cU List.length h) HL.out⟩,an _ _⟩
 rw [<- hlen]at h3 HB⊢;have HL:=V hlen;clear hlen;go_enter func329,ntmps329;go_wp2_with fail;refine eC (fun a' w'=>∃(k:Nat),a'=fr (.slice a la.length cap:: .slice a2 la.length LA:: .func (.func 330) #[] #[]::gs a' 3 12 (.slice a la.length cap:: .int .i64 la.length:: .int .i64 k::gs a' 18 14 []))/\AS la lb w w' k) (fun a' _=>(la.length - (intOf (a'.tmps.getD 17 undef)).toNat)) ?_ ?_
 ·exact⟨0,rfl,by omega,rfl,an _ _⟩
 ·skip
  rintro R a' w1 ⟨k,Lv,hJ⟩ HR;dsimp only [fr,gs]at Lv;generalize slot a'=f at Lv;subst Lv;obtain⟨hk,O2,hb⟩:=hJ;have HT:=V O2;clear O2;by_cases Mi:k < la.length;rotate_left
  ·obtain rfl:k=la.length:=by omega
   go_wp2;go_ret;refine⟨true,rfl,⟨fun _=>?_,fun _=>rfl⟩,hb⟩;have:=HT.out;rw [aU,HL.out,aU]at this;exact this
  obtain⟨c,he⟩:∃e,la[k]?=some e:=⟨_,aq Mi⟩;obtain⟨d,hd⟩:∃d,lb[k]?=some d:=⟨_,aq (by have:=HL.out;omega)⟩;obtain⟨b,off,u,rfl,LD,hc,hu⟩:=ef.get (ef.ext HA.out (Ext.dW hb) (fun _ _ h=>gD.ext h (Ext.dW hb))) he;obtain⟨b2,LX,u2,rfl,Nf,MF,Nz⟩:=ef.get (ef.ext HB.out (Ext.dW hb) (fun _ _ h=>gD.ext h (Ext.dW hb))) hd;have HU:=V hu.1;have PE:=V Nz.1;obtain⟨au,cu,hue,_,_,_⟩:=id HU.out;obtain⟨QO,cu2,hue2,_,_,_⟩:=id PE.out;subst hue hue2;have c0:=hc 0 _ rfl;have c1:=hc 1 _ rfl;have c2:=hc 2 _ rfl;have c3:=hc 3 _ rfl;have d0:=MF 0 _ rfl;have d1:=MF 1 _ rfl;have d2:=MF 2 _ rfl;have d3:=MF 3 _ rfl;rw [aI]at c0 d0;clear hc MF hu Nz;have HE:=V he;have HD:=V hd;clear he hd;obtain⟨M8,-,-⟩:=ld w1 #[.int .i64 c.op, .int .i64 c.a, .int .i64 c.b, .slice au c.l.length cu] #[.int .i64 d.op, .int .i64 d.a, .int .i64 d.b, .slice QO d.l.length cu2] 39;have NF:=(an w1.heap.size w1).alloc (ag _) (.cells #[.int .i64 c.op, .int .i64 c.a, .int .i64 c.b, .slice au c.l.length cu] 39);have e0:=(NF.cell (p:=⟨b2,LX+k*4,none⟩) Nf).trans d0;have e1:=(NF.cell (p:=⟨b2,LX+k*4+1,none⟩) Nf).trans d1;have e2:=(NF.cell (p:=⟨b2,LX+k*4+2,none⟩) Nf).trans d2;have e3:=(NF.cell (p:=⟨b2,LX+k*4+3,none⟩) Nf).trans d3;go_wp2_with fail;refine(yA c d _ _ _ (HU.out.below M8) (PE.out.below M8)).mono ?_;rintro y w2 ⟨r,rfl,hr,Lw⟩;replace hb:=hb.trans ((M8.trans (Lw.mono M8.size)).mono hb.size);have ND:=V hr;have HBR:=V hb;clear hr Lw M8 NF hb;clear c0 d0 e0 c1 d1 e1 c2 d2 e2 c3 d3 e3;cases r with
  | false=>
   go_wp2;go_ret;refine⟨false,rfl,⟨fun h=>(by cases h),fun h=>?_⟩,HBR.out⟩;have h1:=HE.out;rw [h,HD.out]at h1;injection h1 with h1;exact absurd (ND.out.2 h1.symm) (by simp)
  | true=>
   go_wp2;refine HR.out _ _ ⟨k+1,rfl,by omega,?_,HBR.out⟩ ?_
   ·rw [aR,aR,HT.out,HE.out,HD.out,ND.out.1 (by simp)]
   ·simp [intOf]
    omega
theorem AW (c d:gw) (u v u2 v2:Value) (w:World) (hu:ee 1 eU w u c.params) (hv:ee 1 eU w v c.results) (Nz:ee 1 eU w u2 d.params) (MS:ee 1 eU w v2 d.results):
  Calls prog 324 #[.agg #[u,v], .agg #[u2,v2]] w (nF (c=d) w):=by
 have HU:=V hu;have HV:=V hv;have PE:=V Nz;have Ox:=V MS;obtain⟨au,cu,rfl⟩:∃a k,u= .slice a c.params.length k:=(by obtain⟨a,k,h,_⟩:=hu;exact⟨a,k,h⟩);obtain⟨av,cv,rfl⟩:∃a k,v= .slice a c.results.length k:=(by obtain⟨a,k,h,_⟩:=hv;exact⟨a,k,h⟩);obtain⟨QO,cu2,rfl⟩:∃a k,u2= .slice a d.params.length k:=(by obtain⟨a,k,h,_⟩:=Nz;exact⟨a,k,h⟩);obtain⟨QP,cv2,rfl⟩:∃a k,v2= .slice a d.results.length k:=(by obtain⟨a,k,h,_⟩:=MS;exact⟨a,k,h⟩);obtain⟨hb,MI,Nk⟩:=ld w #[.slice au c.params.length cu, .slice av c.results.length cv] #[.slice QO d.params.length cu2, .slice QP d.results.length cv2] 69;have LK:=V hb;have Mm:=V MI;have MB:=V Nk;clear hb MI Nk hu hv Nz MS;go_enter func324,ntmps324;go_wp2_with fail;refine(kJ _ _ c.params d.params _ (HU.out.below LK.out) (PE.out.below LK.out)).mono ?_;rintro y w2 ⟨r,rfl,hr,Lw⟩;have LY:=V (LK.out.trans (Lw.mono LK.out.size));have x1:=(Mm.out.below Lw Mm.out.lt).two.2.1;have y1:=(MB.out.below Lw MB.out.lt).two.2.1;have ND:=V hr;clear hr Lw;cases r with
 | false=>
  go_wp2;go_ret;refine⟨false,rfl,⟨fun h=>(by cases h),fun h=>?_⟩,LY.out⟩;have g:=ND.out.2 (by rw [h]);simp at g
 | true=>
  go_wp2_with fail;refine(kJ _ _ c.results d.results _ (HV.out.below LY.out) (Ox.out.below LY.out)).mono ?_;rintro y w3 ⟨r2,rfl,Of,LZ⟩;have RC:=V (LY.out.trans (LZ.mono LY.out.size));have O5:=V Of;clear Of LZ x1 y1;go_wp2;go_ret;refine⟨r2,rfl,⟨fun h=>?_,fun h=>O5.out.2 (by rw [h])⟩,RC.out⟩;have g:=ND.out.1 (by simp);have g':=O5.out.1 h;obtain⟨p0,p1⟩:=c;obtain⟨s0,s1⟩:=d;simp only at g g';rw [g,g']
theorem A3 (c d:hI) (u v u2 v2:Value) (w:World) (hu:ee 1 eU w u c.locals) (hv:gu w v c.body) (Nz:ee 1 eU w u2 d.locals) (MS:gu w v2 d.body):
  Calls prog 328 #[.agg #[u,v], .agg #[u2,v2]] w (nF (c=d) w):=by
 have HU:=V hu;have HV:=V hv;have PE:=V Nz;have Ox:=V MS;obtain⟨au,cu,rfl⟩:∃a k,u= .slice a c.locals.length k:=(by obtain⟨a,k,h,_⟩:=hu;exact⟨a,k,h⟩);obtain⟨av,cv,rfl⟩:∃a k,v= .slice a c.body.length k:=(by obtain⟨a,k,h,_⟩:=ef.slice hv;exact⟨a,k,h⟩);obtain⟨QO,cu2,rfl⟩:∃a k,u2= .slice a d.locals.length k:=(by obtain⟨a,k,h,_⟩:=Nz;exact⟨a,k,h⟩);obtain⟨QP,cv2,rfl⟩:∃a k,v2= .slice a d.body.length k:=(by obtain⟨a,k,h,_⟩:=ef.slice MS;exact⟨a,k,h⟩);obtain⟨hb,MI,Nk⟩:=ld w #[.slice au c.locals.length cu, .slice av c.body.length cv] #[.slice QO d.locals.length cu2, .slice QP d.body.length cv2] 41;have LK:=V hb;have Mm:=V MI;have MB:=V Nk;clear hb MI Nk hu hv Nz MS;go_enter func328,ntmps328;go_wp2_with fail;refine(kJ _ _ c.locals d.locals _ (HU.out.below LK.out) (PE.out.below LK.out)).mono ?_;rintro y w2 ⟨r,rfl,hr,Lw⟩;have LY:=V (LK.out.trans (Lw.mono LK.out.size));have x1:=(Mm.out.below Lw Mm.out.lt).two.2.1;have y1:=(MB.out.below Lw MB.out.lt).two.2.1;have ND:=V hr;clear hr Lw;cases r with
 | false=>
  go_wp2;go_ret;refine⟨false,rfl,⟨fun h=>(by cases h),fun h=>?_⟩,LY.out⟩;have g:=ND.out.2 (by rw [h]);simp at g
 | true=>
  go_wp2_with fail;refine(Am _ _ c.body d.body _ (HV.out.below LY.out) (Ox.out.below LY.out)).mono ?_;rintro y w3 ⟨r2,rfl,Of,LZ⟩;have RC:=V (LY.out.trans (LZ.mono LY.out.size));have O5:=V Of;clear Of LZ x1 y1;go_wp2;go_ret;refine⟨r2,rfl,⟨fun h=>?_,fun h=>O5.out.2 (by rw [h])⟩,RC.out⟩;have g:=ND.out.1 (by simp);have g':=O5.out.1 h;obtain⟨p0,p1⟩:=c;obtain⟨s0,s1⟩:=d;simp only at g g';rw [g,g']
def Km {α β:Type} (no t fq fe':Nat) (enc:α × β ->List Value) (inner:World ->α ->β ->Prop):Prop:=∀(n:Nat) (_:n=no) (tt:TypeId) (_:tt=t) (fe:Nat) (_:fe=fe') (va vb:Value) (la lb:List α) (w:World),ef 2 enc inner w va la ->ef 2 enc inner w vb lb ->Calls prog fq #[va,vb, .func (.func fe) #[] #[]] w (nW la lb w)
theorem wQ:Km 1 69 323 324 oV gG/\Km 2 41 327 328 oY gE:=by
 refine⟨?_,?_⟩
 all_goals
  intro n hn tt htt fe hfe va vb la lb w ha hb;have HTT:=V htt;have HFE:=V hfe;clear htt hfe;have HA:=V ha;have HB:=V hb;obtain⟨a,cap,rfl,h1,h2⟩:=ha.slice;obtain⟨a2,LA,rfl,h3,h4⟩:=hb.slice;clear ha hb;by_cases hlen:la.length=lb.length;rotate_left
  ·have f1:(((la.length:Int)) !=((lb.length:Int)))=true:=fa (by omega)
   have HL:=V hlen;clear hlen
   first | go_enter func323,ntmps323 | go_enter func327,ntmps327
   go_wp2;go_ret;exact⟨false,rfl,⟨fun h=>(by cases h),fun h=>absurd (cU List.length h) HL.out⟩,an _ _⟩
  rw [<- hlen]at h3 HB⊢;have HL:=V hlen;clear hlen
  first | go_enter func323,ntmps323 | go_enter func327,ntmps327
  go_wp2_with fail;refine eC (fun a' w'=>∃(k:Nat),a'=fr (.slice a la.length cap:: .slice a2 la.length LA:: .func (.func fe) #[] #[]::gs a' 3 12 (.slice a la.length cap:: .int .i64 la.length:: .int .i64 k::gs a' 18 14 []))/\AS la lb w w' k) (fun a' _=>(la.length - (intOf (a'.tmps.getD 17 undef)).toNat)) ?_ ?_
  ·exact⟨0,rfl,by omega,rfl,an _ _⟩
  ·skip
   rintro R a' w1 ⟨k,Lv,hJ⟩ HR;dsimp only [fr,gs]at Lv;generalize slot a'=f at Lv;subst Lv;obtain⟨hk,O2,hb⟩:=hJ;have HT:=V O2;clear O2;by_cases Mi:k < la.length;rotate_left
   ·obtain rfl:k=la.length:=by omega
    go_wp2;go_ret;refine⟨true,rfl,⟨fun _=>?_,fun _=>rfl⟩,hb⟩;have:=HT.out;rw [aU,HL.out,aU]at this;exact this
   obtain⟨c,he⟩:∃e,la[k]?=some e:=⟨_,aq Mi⟩;obtain⟨d,hd⟩:∃d,lb[k]?=some d:=⟨_,aq (by have:=HL.out;omega)⟩;obtain⟨b,off,u,rfl,LD,hc,hu⟩:=ef.get (ef.ext HA.out (Ext.dW hb) (fun _ _ h=>h.ext (Ext.dW hb))) he;obtain⟨b2,LX,u2,rfl,Nf,MF,Nz⟩:=ef.get (ef.ext HB.out (Ext.dW hb) (fun _ _ h=>h.ext (Ext.dW hb))) hd;obtain⟨u,v⟩:=u;obtain⟨u2,v2⟩:=u2;have HU:=V hu.1.1;have HV:=V hu.1.2;have PE:=V Nz.1.1;have Ox:=V Nz.1.2;simp only at HU HV PE Ox;obtain⟨au,lu,cu,rfl⟩:∃a l k,u= .slice a l k:=(by first | (obtain⟨a,k,h,_⟩:=HU.out;exact⟨a,_,k,h⟩) | (obtain⟨a,k,h,_⟩:=ef.slice HU.out;exact⟨a,_,k,h⟩));obtain⟨av,lv,cv,rfl⟩:∃a l k,v= .slice a l k:=(by first | (obtain⟨a,k,h,_⟩:=HV.out;exact⟨a,_,k,h⟩) | (obtain⟨a,k,h,_⟩:=ef.slice HV.out;exact⟨a,_,k,h⟩));obtain⟨QO,lu2,cu2,rfl⟩:∃a l k,u2= .slice a l k:=(by first | (obtain⟨a,k,h,_⟩:=PE.out;exact⟨a,_,k,h⟩) | (obtain⟨a,k,h,_⟩:=ef.slice PE.out;exact⟨a,_,k,h⟩));obtain⟨QP,lv2,cv2,rfl⟩:∃a l k,v2= .slice a l k:=(by first | (obtain⟨a,k,h,_⟩:=Ox.out;exact⟨a,_,k,h⟩) | (obtain⟨a,k,h,_⟩:=ef.slice Ox.out;exact⟨a,_,k,h⟩));have c0:=hc 0 _ rfl;have c1:=hc 1 _ rfl;have d0:=MF 0 _ rfl;have d1:=MF 1 _ rfl;rw [aI]at c0 d0;clear hc MF hu Nz;have HE:=V he;have HD:=V hd;clear he hd;obtain⟨M8,-,-⟩:=ld w1 #[.slice au lu cu, .slice av lv cv] #[.slice QO lu2 cu2, .slice QP lv2 cv2] tt;have NF:=(an w1.heap.size w1).alloc (ag _) (.cells #[.slice au lu cu, .slice av lv cv] tt);have e8:=HTT.out;have e9:=HFE.out;subst e8 e9;have e0:=(NF.cell (p:=⟨b2,LX+k*2,none⟩) Nf).trans d0;have e1:=(NF.cell (p:=⟨b2,LX+k*2+1,none⟩) Nf).trans d1;go_wp2_with fail
   first | (have:n=1:=hn;refine(AW c d _ _ _ _ _ (HU.out.below M8) (HV.out.below M8) (PE.out.below M8) (Ox.out.below M8)).mono ?_) | (have:n=2:=hn;refine(A3 c d _ _ _ _ _ (HU.out.below M8) (HV.out.below M8) (PE.out.below M8) (Ox.out.below M8)).mono ?_)
   rintro y w2 ⟨r,rfl,hr,Lw⟩;replace hb:=hb.trans ((M8.trans (Lw.mono M8.size)).mono hb.size);have ND:=V hr;have HBR:=V hb;clear hr Lw M8 NF hb;clear c0 d0 e0 c1 d1 e1;cases r with
   | false=>
    go_wp2;go_ret;refine⟨false,rfl,⟨fun h=>(by cases h),fun h=>?_⟩,HBR.out⟩;have h1:=HE.out;rw [h,HD.out]at h1;injection h1 with h1;exact absurd (ND.out.2 h1.symm) (by simp)
   | true=>
    go_wp2;refine HR.out _ _ ⟨k+1,rfl,by omega,?_,HBR.out⟩ ?_
    ·rw [aR,aR,HT.out,HE.out,HD.out,ND.out.1 (by simp)]
    ·simp [intOf]
     omega
theorem sC (va vb:Value) (la lb:List gw) (w:World) (ha:ef 2 oV gG w va la) (hb:ef 2 oV gG w vb lb):
  Calls prog 323 #[va,vb, .func (.func 324) #[] #[]] w (nW la lb w):=wQ.1 _ rfl _ rfl _ rfl va vb la lb w ha hb
theorem sq (va vb:Value) (la lb:List hI) (w:World) (ha:ef 2 oY gE w va la) (hb:ef 2 oY gE w vb lb):
  Calls prog 327 #[va,vb, .func (.func 328) #[] #[]] w (nW la lb w):=wQ.2 _ rfl _ rfl _ rfl va vb la lb w ha hb
theorem tg (a a2:Option Addr) (c c2:Nat) (w:World):Calls prog 325 #[.slice a 0 c, .slice a2 0 c2, .func (.func 326) #[] #[]] w (nF True w)/\Calls prog 331 #[.slice a 0 c, .slice a2 0 c2, .func (.func 332) #[] #[]] w (nF True w)/\Calls prog 334 #[.slice a 0 c, .slice a2 0 c2] w (nF True w)/\Calls prog 335 #[.slice a 0 c, .slice a2 0 c2] w (nF True w):=by
 refine⟨?_,?_,?_,?_⟩
 all_goals
  first | go_enter func325,ntmps325 | go_enter func331,ntmps331 | go_enter func334,ntmps334 | go_enter func335,ntmps335
  go_wp2_with fail;refine dq 1 ?_;rw [cI];go_wp2;go_ret;exact⟨true,rfl,by simp,an _ _⟩
theorem yH (a a2:Option Addr) (c c2:Nat) (w:World):Calls prog 325 #[.slice a 0 c, .slice a2 0 c2, .func (.func 326) #[] #[]] w (nF True w):=(tg a a2 c c2 w).1
theorem yJ (a a2:Option Addr) (c c2:Nat) (w:World):Calls prog 331 #[.slice a 0 c, .slice a2 0 c2, .func (.func 332) #[] #[]] w (nF True w):=(tg a a2 c c2 w).2.1
theorem Eu (a a2:Option Addr) (c c2:Nat) (w:World):Calls prog 334 #[.slice a 0 c, .slice a2 0 c2] w (nF True w):=(tg a a2 c c2 w).2.2.1
theorem Fm (a a2:Option Addr) (c c2:Nat) (w:World):Calls prog 335 #[.slice a 0 c, .slice a2 0 c2] w (nF True w):=(tg a a2 c c2 w).2.2.2
def eu.De (m:eu):Prop:=m.imports=[]/\m.globals=[]/\m.elems=[]/\m.eA=[]
theorem FE (m n:eu) (u v:eE) (w:World) (hm:eo w u m) (hm2:eo w v n) (hp:m.De) (Qb:n.De) (ht:m.types≠n.types):
  Calls prog 322 #[.agg (u.cells m), .agg (v.cells n)] w (nF False w):=by
 have HT:=V ht;clear ht;have HI:=V hm;have Oh:=V hm2;have HP:=V hp;have HP2:=V Qb;have Oy:m.imports.length=0:=by rw [hp.1];rfl
 have hg0:m.globals.length=0:=by rw [hp.2.1];rfl
 have he0:m.elems.length=0:=by rw [hp.2.2.1];rfl
 have hd0:m.eA.length=0:=by rw [hp.2.2.2];rfl
 have hi2:n.imports.length=0:=by rw [Qb.1];rfl
 have NC:n.globals.length=0:=by rw [Qb.2.1];rfl
 have M9:n.elems.length=0:=by rw [Qb.2.2.1];rfl
 have QY:n.eA.length=0:=by rw [Qb.2.2.2];rfl
 obtain⟨a0,c0,a1,c1,a2,c2,a3,c3,a4,c4,a5,c5,a6,c6,a7,c7,rfl⟩:=eo.open hm;obtain⟨b0,d0,b1,d1,b2,d2,b3,d3,b4,d4,b5,d5,b6,d6,b7,d7,rfl⟩:=eo.open hm2;clear hm hm2 hp Qb;simp only [eE.cells,Oy,hg0,he0,hd0,hi2,NC,M9,QY]at*;obtain⟨hb,MI,Nk⟩:=ld w #[.slice a0 m.types.length c0, .slice a1 0 c1, .slice a2 m.funcs.length c2, .bool m.table.has, .int .i64 m.table.min, .int .i64 m.table.max, .bool m.mem.has, .int .i64 m.mem.min, .int .i64 m.mem.max, .slice a3 0 c3, .slice a4 m.dY.length c4, .slice a5 0 c5, .slice a6 m.eh.length c6, .slice a7 0 c7] #[.slice b0 n.types.length d0, .slice b1 0 d1, .slice b2 n.funcs.length d2, .bool n.table.has, .int .i64 n.table.min, .int .i64 n.table.max, .bool n.mem.has, .int .i64 n.mem.min, .int .i64 n.mem.max, .slice b3 0 d3, .slice b4 n.dY.length d4, .slice b5 0 d5, .slice b6 n.eh.length d6, .slice b7 0 d7] 35;have LK:=V hb;have Mm:=V MI;have MB:=V Nk;clear hb MI Nk Oy hg0 he0 hd0 hi2 NC M9 QY;go_enter func322,ntmps322;go_wp2_with fail;refine(sC (.slice a0 m.types.length c0) (.slice b0 n.types.length d0) m.types n.types _ (ef.below HI.out.1 LK.out (fun _ _ h=>h.below LK.out)) (ef.below Oh.out.1 LK.out (fun _ _ h=>h.below LK.out))).mono ?_;rintro y w1 ⟨r1,rfl,hr,hb⟩;have R1:=V hr;have Mm:=V (Mm.out.below hb Mm.out.lt);have MB:=V (MB.out.below hb MB.out.lt);have LK:=V (LK.out.trans (hb.mono LK.out.size));clear hr hb;obtain⟨g0,g1,g2,g3,g4,g5,g6,g7,g8,g9,L8,Mb,Mc,Md⟩:=Mm.out.mod;obtain⟨k0,k1,k2,k3,k4,k5,k6,k7,k8,k9,Pg,Ph,Pj,Pk⟩:=MB.out.mod;go_wp2_with fail;refine(yH _ _ _ _ _).mono ?_;clear g0 g1 g2 g3 g4 g5 g6 g7 g8 g9 L8 Mb Mc Md k0 k1 k2 k3 k4 k5 k6 k7 k8 k9 Pg Ph Pj Pk;rintro y w2 ⟨r2,rfl,hr,hb⟩;have R2:=V hr;have Mm:=V (Mm.out.below hb Mm.out.lt);have MB:=V (MB.out.below hb MB.out.lt);have LK:=V (LK.out.trans (hb.mono LK.out.size));clear hr hb;obtain⟨g0,g1,g2,g3,g4,g5,g6,g7,g8,g9,L8,Mb,Mc,Md⟩:=Mm.out.mod;obtain⟨k0,k1,k2,k3,k4,k5,k6,k7,k8,k9,Pg,Ph,Pj,Pk⟩:=MB.out.mod;obtain rfl:=R2.out.2 trivial;go_wp2_with fail;refine(sq (.slice a6 m.eh.length c6) (.slice b6 n.eh.length d6) m.eh n.eh _ (ef.below HI.out.2.2.2.2.2.2.1 LK.out (fun _ _ h=>h.below LK.out)) (ef.below Oh.out.2.2.2.2.2.2.1 LK.out (fun _ _ h=>h.below LK.out))).mono ?_;clear g0 g1 g2 g3 g4 g5 g6 g7 g8 g9 L8 Mb Mc Md k0 k1 k2 k3 k4 k5 k6 k7 k8 k9 Pg Ph Pj Pk;rintro y w3 ⟨r3,rfl,hr,hb⟩;have R3:=V hr;have Mm:=V (Mm.out.below hb Mm.out.lt);have MB:=V (MB.out.below hb MB.out.lt);have LK:=V (LK.out.trans (hb.mono LK.out.size));clear hr hb;obtain⟨g0,g1,g2,g3,g4,g5,g6,g7,g8,g9,L8,Mb,Mc,Md⟩:=Mm.out.mod;obtain⟨k0,k1,k2,k3,k4,k5,k6,k7,k8,k9,Pg,Ph,Pj,Pk⟩:=MB.out.mod;go_wp2_with fail;refine(yJ _ _ _ _ _).mono ?_;clear g0 g1 g2 g3 g4 g5 g6 g7 g8 g9 L8 Mb Mc Md k0 k1 k2 k3 k4 k5 k6 k7 k8 k9 Pg Ph Pj Pk;rintro y w4 ⟨r4,rfl,hr,hb⟩;have R4:=V hr;have Mm:=V (Mm.out.below hb Mm.out.lt);have MB:=V (MB.out.below hb MB.out.lt);have LK:=V (LK.out.trans (hb.mono LK.out.size));clear hr hb;obtain⟨g0,g1,g2,g3,g4,g5,g6,g7,g8,g9,L8,Mb,Mc,Md⟩:=Mm.out.mod;obtain⟨k0,k1,k2,k3,k4,k5,k6,k7,k8,k9,Pg,Ph,Pj,Pk⟩:=MB.out.mod;obtain rfl:=R4.out.2 trivial;obtain rfl:r1=false:=by
  cases r1 with
  | true=>exact absurd (R1.out.1 rfl) HT.out
  | false=>rfl
 clear g0 g1 g2 g3 g4 g5 g6 g7 g8 g9 L8 Mb Mc Md k0 k1 k2 k3 k4 k5 k6 k7 k8 k9 Pg Ph Pj Pk;obtain⟨g0,g1,g2,g3,g4,g5,g6,g7,g8,g9,L8,Mb,Mc,Md⟩:=Mm.out.mod;obtain⟨k0,k1,k2,k3,k4,k5,k6,k7,k8,k9,Pg,Ph,Pj,Pk⟩:=MB.out.mod;go_wp2;go_ret;exact⟨false,rfl,by simp,LK.out⟩
theorem Ik (m:eu) (u v:eE) (w:World) (hm:eo w u m) (hm2:eo w v m) (hp:m.De) (Qb:m.De):
  Calls prog 322 #[.agg (u.cells m), .agg (v.cells m)] w (nF True w):=by
 have HI:=V hm;have Oh:=V hm2;have HP:=V hp;have HP2:=V Qb;have Oy:m.imports.length=0:=by rw [hp.1];rfl
 have hg0:m.globals.length=0:=by rw [hp.2.1];rfl
 have he0:m.elems.length=0:=by rw [hp.2.2.1];rfl
 have hd0:m.eA.length=0:=by rw [hp.2.2.2];rfl
 have hi2:m.imports.length=0:=by rw [Qb.1];rfl
 have NC:m.globals.length=0:=by rw [Qb.2.1];rfl
 have M9:m.elems.length=0:=by rw [Qb.2.2.1];rfl
 have QY:m.eA.length=0:=by rw [Qb.2.2.2];rfl
 obtain⟨a0,c0,a1,c1,a2,c2,a3,c3,a4,c4,a5,c5,a6,c6,a7,c7,rfl⟩:=eo.open hm;obtain⟨b0,d0,b1,d1,b2,d2,b3,d3,b4,d4,b5,d5,b6,d6,b7,d7,rfl⟩:=eo.open hm2;clear hm hm2 hp Qb;simp only [eE.cells,Oy,hg0,he0,hd0]at*;obtain⟨hb,MI,Nk⟩:=ld w #[.slice a0 m.types.length c0, .slice a1 0 c1, .slice a2 m.funcs.length c2, .bool m.table.has, .int .i64 m.table.min, .int .i64 m.table.max, .bool m.mem.has, .int .i64 m.mem.min, .int .i64 m.mem.max, .slice a3 0 c3, .slice a4 m.dY.length c4, .slice a5 0 c5, .slice a6 m.eh.length c6, .slice a7 0 c7] #[.slice b0 m.types.length d0, .slice b1 0 d1, .slice b2 m.funcs.length d2, .bool m.table.has, .int .i64 m.table.min, .int .i64 m.table.max, .bool m.mem.has, .int .i64 m.mem.min, .int .i64 m.mem.max, .slice b3 0 d3, .slice b4 m.dY.length d4, .slice b5 0 d5, .slice b6 m.eh.length d6, .slice b7 0 d7] 35;have LK:=V hb;have Mm:=V MI;have MB:=V Nk;clear hb MI Nk Oy hg0 he0 hd0 hi2 NC M9 QY;go_enter func322,ntmps322;go_wp2_with fail;refine(sC (.slice a0 m.types.length c0) (.slice b0 m.types.length d0) m.types m.types _ (ef.below HI.out.1 LK.out (fun _ _ h=>h.below LK.out)) (ef.below Oh.out.1 LK.out (fun _ _ h=>h.below LK.out))).mono ?_;rintro y w1 ⟨r1,rfl,hr,hb⟩;have R1:=V hr;have Mm:=V (Mm.out.below hb Mm.out.lt);have MB:=V (MB.out.below hb MB.out.lt);have LK:=V (LK.out.trans (hb.mono LK.out.size));clear hr hb;obtain⟨g0,g1,g2,g3,g4,g5,g6,g7,g8,g9,L8,Mb,Mc,Md⟩:=Mm.out.mod;obtain⟨k0,k1,k2,k3,k4,k5,k6,k7,k8,k9,Pg,Ph,Pj,Pk⟩:=MB.out.mod;go_wp2_with fail;refine(yH _ _ _ _ _).mono ?_;clear g0 g1 g2 g3 g4 g5 g6 g7 g8 g9 L8 Mb Mc Md k0 k1 k2 k3 k4 k5 k6 k7 k8 k9 Pg Ph Pj Pk;rintro y w2 ⟨r2,rfl,hr,hb⟩;have R2:=V hr;have Mm:=V (Mm.out.below hb Mm.out.lt);have MB:=V (MB.out.below hb MB.out.lt);have LK:=V (LK.out.trans (hb.mono LK.out.size));clear hr hb;obtain⟨g0,g1,g2,g3,g4,g5,g6,g7,g8,g9,L8,Mb,Mc,Md⟩:=Mm.out.mod;obtain⟨k0,k1,k2,k3,k4,k5,k6,k7,k8,k9,Pg,Ph,Pj,Pk⟩:=MB.out.mod;obtain rfl:=R2.out.2 trivial;go_wp2_with fail;refine(sq (.slice a6 m.eh.length c6) (.slice b6 m.eh.length d6) m.eh m.eh _ (ef.below HI.out.2.2.2.2.2.2.1 LK.out (fun _ _ h=>h.below LK.out)) (ef.below Oh.out.2.2.2.2.2.2.1 LK.out (fun _ _ h=>h.below LK.out))).mono ?_;clear g0 g1 g2 g3 g4 g5 g6 g7 g8 g9 L8 Mb Mc Md k0 k1 k2 k3 k4 k5 k6 k7 k8 k9 Pg Ph Pj Pk;rintro y w3 ⟨r3,rfl,hr,hb⟩;have R3:=V hr;have Mm:=V (Mm.out.below hb Mm.out.lt);have MB:=V (MB.out.below hb MB.out.lt);have LK:=V (LK.out.trans (hb.mono LK.out.size));clear hr hb;obtain⟨g0,g1,g2,g3,g4,g5,g6,g7,g8,g9,L8,Mb,Mc,Md⟩:=Mm.out.mod;obtain⟨k0,k1,k2,k3,k4,k5,k6,k7,k8,k9,Pg,Ph,Pj,Pk⟩:=MB.out.mod;go_wp2_with fail;refine(yJ _ _ _ _ _).mono ?_;clear g0 g1 g2 g3 g4 g5 g6 g7 g8 g9 L8 Mb Mc Md k0 k1 k2 k3 k4 k5 k6 k7 k8 k9 Pg Ph Pj Pk;rintro y w4 ⟨r4,rfl,hr,hb⟩;have R4:=V hr;have Mm:=V (Mm.out.below hb Mm.out.lt);have MB:=V (MB.out.below hb MB.out.lt);have LK:=V (LK.out.trans (hb.mono LK.out.size));clear hr hb;obtain⟨g0,g1,g2,g3,g4,g5,g6,g7,g8,g9,L8,Mb,Mc,Md⟩:=Mm.out.mod;obtain⟨k0,k1,k2,k3,k4,k5,k6,k7,k8,k9,Pg,Ph,Pj,Pk⟩:=MB.out.mod;obtain rfl:=R4.out.2 trivial;obtain rfl:=R1.out.2 trivial;obtain rfl:=R3.out.2 trivial;go_wp2_with fail;refine(Eu _ _ _ _ _).mono ?_;clear g0 g1 g2 g3 g4 g5 g6 g7 g8 g9 L8 Mb Mc Md k0 k1 k2 k3 k4 k5 k6 k7 k8 k9 Pg Ph Pj Pk;rintro y w5 ⟨r5,rfl,hr,hb⟩;have R5:=V hr;have Mm:=V (Mm.out.below hb Mm.out.lt);have MB:=V (MB.out.below hb MB.out.lt);have LK:=V (LK.out.trans (hb.mono LK.out.size));clear hr hb;obtain⟨g0,g1,g2,g3,g4,g5,g6,g7,g8,g9,L8,Mb,Mc,Md⟩:=Mm.out.mod;obtain⟨k0,k1,k2,k3,k4,k5,k6,k7,k8,k9,Pg,Ph,Pj,Pk⟩:=MB.out.mod;obtain rfl:=R5.out.2 trivial;go_wp2_with fail;refine(kJ (.slice a2 m.funcs.length c2) (.slice b2 m.funcs.length d2) m.funcs m.funcs _ (HI.out.2.2.1.below LK.out) (Oh.out.2.2.1.below LK.out)).mono ?_;clear g0 g1 g2 g3 g4 g5 g6 g7 g8 g9 L8 Mb Mc Md k0 k1 k2 k3 k4 k5 k6 k7 k8 k9 Pg Ph Pj Pk;rintro y w6 ⟨r6,rfl,hr,hb⟩;have R6:=V hr;have Mm:=V (Mm.out.below hb Mm.out.lt);have MB:=V (MB.out.below hb MB.out.lt);have LK:=V (LK.out.trans (hb.mono LK.out.size));clear hr hb;obtain⟨g0,g1,g2,g3,g4,g5,g6,g7,g8,g9,L8,Mb,Mc,Md⟩:=Mm.out.mod;obtain⟨k0,k1,k2,k3,k4,k5,k6,k7,k8,k9,Pg,Ph,Pj,Pk⟩:=MB.out.mod;obtain rfl:=R6.out.2 rfl;go_wp2_with fail;refine(Fm _ _ _ _ _).mono ?_;clear g0 g1 g2 g3 g4 g5 g6 g7 g8 g9 L8 Mb Mc Md k0 k1 k2 k3 k4 k5 k6 k7 k8 k9 Pg Ph Pj Pk;rintro y w7 ⟨r7,rfl,hr,hb⟩;have R7:=V hr;have Mm:=V (Mm.out.below hb Mm.out.lt);have MB:=V (MB.out.below hb MB.out.lt);have LK:=V (LK.out.trans (hb.mono LK.out.size));clear hr hb;obtain⟨g0,g1,g2,g3,g4,g5,g6,g7,g8,g9,L8,Mb,Mc,Md⟩:=Mm.out.mod;obtain⟨k0,k1,k2,k3,k4,k5,k6,k7,k8,k9,Pg,Ph,Pj,Pk⟩:=MB.out.mod;obtain rfl:=R7.out.2 trivial;go_wp2_with fail;refine(xx (.slice a4 m.dY.length c4) (.slice b4 m.dY.length d4) m.dY m.dY _ (HI.out.2.2.2.2.1.below LK.out) (Oh.out.2.2.2.2.1.below LK.out)).mono ?_;clear g0 g1 g2 g3 g4 g5 g6 g7 g8 g9 L8 Mb Mc Md k0 k1 k2 k3 k4 k5 k6 k7 k8 k9 Pg Ph Pj Pk;rintro y w8 ⟨r8,rfl,hr,hb⟩;have R8:=V hr;have Mm:=V (Mm.out.below hb Mm.out.lt);have MB:=V (MB.out.below hb MB.out.lt);have LK:=V (LK.out.trans (hb.mono LK.out.size));clear hr hb;obtain⟨g0,g1,g2,g3,g4,g5,g6,g7,g8,g9,L8,Mb,Mc,Md⟩:=Mm.out.mod;obtain⟨k0,k1,k2,k3,k4,k5,k6,k7,k8,k9,Pg,Ph,Pj,Pk⟩:=MB.out.mod;obtain rfl:=R8.out.2 rfl;go_wp2;go_ret;exact⟨true,rfl,by simp,LK.out⟩
theorem eD.rws {α:Type} {k:Nat} {enc:α ->List Value} {w:World} {X:Nat} {xs:Array Value} {t:TypeId} (h:eD w X xs t) (hk:∀x,(enc x).length=k) (l:List α) (rest:List Value) (hx:xs.toList=l.flatMap enc++rest) (cap:Nat) (hc:l.length <=cap) (hm:cap <=maxLen):
  ee k enc w (.slice (some ⟨X,0,none⟩) l.length cap) l:=by
 refine⟨_,cap,rfl,hc,hm,fun i x hi=>⟨X,0,rfl,h.lt,fun j v hj=>?_⟩⟩;rw [h.cell, <- cA,hx,bR];have hjk:j < k:=by
  rw [<- hk x];exact(aG.1 hj).1
 have hg:=rB hk l i x j hi hjk;rw [bE (by rw [hj]at hg;exact(aG.1 hg).1),hg,hj]
theorem eD.deep {α β:Type} {k:Nat} {enc:α × β ->List Value} {inner:World ->α ->β ->Prop} {w:World} {X:Nat} {xs:Array Value} {t:TypeId} (h:eD w X xs t) (hk:∀x,(enc x).length=k) (l:List α) (us:List β) (hl:us.length=l.length) (rest:List Value) (hx:xs.toList=(l.zip us).flatMap enc++rest) (cap:Nat) (hc:l.length <=cap) (hm:cap <=maxLen)
  (hi:∀(i:Nat) (x:α) (u:β),l[i]?=some x ->us[i]?=some u ->inner w x u):
  ef k enc inner w (.slice (some ⟨X,0,none⟩) l.length cap) l:=by
 have hz:(l.zip us).length=l.length:=by rw [bS,hl,cP]
 have:=h.rws hk (l.zip us) rest hx cap (by omega) hm;rw [hz]at this;exact⟨us,hl,this,hi⟩
def pq (w:World) (os:List Obj):World:=os.foldl World.alloc w
theorem n8 (w:World) (os:List Obj):Below w.heap.size w (pq w os)/\(pq w os).heap.size=w.heap.size+os.length:=by
 unfold pq
 induction os generalizing w with
 | nil=>exact⟨an _ _,rfl⟩
 | cons o os ih=>
  obtain⟨h1,h2⟩:=ih (w.alloc o);refine⟨((an w.heap.size w).alloc (ag _) o).trans (h1.mono (by simp)),?_⟩;rw [List.foldl_cons,h2];simp;omega
theorem uF (w:World) (os:List Obj) (i:Nat) (xs:Array Value) (t:TypeId) (h:os[i]?=some (.cells xs t)):eD (pq w os) (w.heap.size+i) xs t:=by
 induction os generalizing w i with
 | nil=>simp at h
 | cons o os ih=>
  cases i with
  | zero=>
   simp only [aJ,aS]at h;subst h;exact(eD.new w xs t).below (n8 _ os).1 (by simp)
  | succ i=>
   have:=ih (w.alloc o) i h;rw [aC]at this;rw [show w.heap.size+(i+1)=w.heap.size+1+i by omega];exact this
theorem vE (x:Int):(eU x).length=1:=rfl
theorem Kl (x:gw × Value × Value):(oV x).length=2:=rfl
theorem Ka (x:hI × Value × Value):(oY x).length=2:=rfl
theorem J6 (x:iU):(oZ x).length=2:=rfl
theorem KP (x:jD):(qv x).length=3:=rfl
theorem KW (x:jz):(qB x).length=3:=rfl
theorem Lk (x:jh × Value):(rE x).length=2:=rfl
theorem La (x:eP × Value):(rA x).length=4:=rfl
def fQ:List eP:=[⟨32,0,0,[]⟩,⟨32,1,0,[]⟩,⟨106,0,0,[]⟩]
def mg:ByteArray:=⟨#[97,100,100]⟩
def eS (fn:Int) (body:List eP):eu:=⟨[⟨[1,1],[1]⟩],[],[0],⟨false,0,0⟩,⟨false,0,0⟩,[],[⟨mg,fn⟩],[],[⟨[],body⟩],[]⟩
def rowAt (X n cap:Nat):Value:= .slice (some ⟨X,0,none⟩) n cap
def gV (B:Nat):eE:=⟨rowAt (B+3) 1 1, .slice none 0 0,rowAt (B+4) 1 1, .slice none 0 0,rowAt (B+5) 1 1, .slice none 0 0,rowAt (B+7) 1 1, .slice none 0 0⟩
def jY (l:List eP):List Value:=l.flatMap fun x=>[.int .i64 x.op, .int .i64 x.a, .int .i64 x.b, .slice none 0 0]
def gg (w:World) (B:Nat) (fn:Int) (bs:Value):Prop:=
 (eD w (B+1) #[.int .i64 1, .int .i64 1] 3/\eD w (B+2) #[.int .i64 1] 3/\eD w (B+3) #[rowAt (B+1) 2 2,rowAt (B+2) 1 1] 69)/\
 eD w (B+4) #[.int .i64 0] 3/\eD w (B+5) #[.string mg, .int .i64 fn] 75/\
 eD w (B+6) (jY fQ).toArray 39/\eD w (B+7) #[.slice none 0 0,bs] 41
theorem gg.below {w w':World} {B:Nat} {fn:Int} {bs:Value} (h:gg w B fn bs) (hb:Below w.heap.size w w'):gg w' B fn bs:=by
 obtain⟨⟨h1,h2,h3⟩,h4,h5,h6,h7⟩:=h;exact⟨⟨h1.below hb h1.lt,h2.below hb h2.lt,h3.below hb h3.lt⟩,h4.below hb h4.lt,h5.below hb h5.lt,h6.below hb h6.lt,h7.below hb h7.lt⟩
theorem gg.setBody {w:World} {B:Nat} {fn:Int} {bs:Value} (h:gg w B fn bs) (v:Value):gg (w.setCell ⟨B+7,1,none⟩ v) B fn v:=by
 obtain⟨⟨h1,h2,h3⟩,h4,h5,h6,h7⟩:=h;exact⟨⟨h1.other _ _ (by simp;try omega),h2.other _ _ (by simp;try omega),h3.other _ _ (by simp;try omega)⟩,h4.other _ _ (by simp;try omega),h5.other _ _ (by simp;try omega),h6.other _ _ (by simp;try omega),h7.set 1 v⟩
theorem gg.Jf {w:World} {B:Nat} {fn:Int} {bs:Value} (h:gg w B fn bs) (x:Int):gg (w.setCell ⟨B+5,1,none⟩ (.int .i64 x)) B x bs:=by
 obtain⟨⟨h1,h2,h3⟩,h4,h5,h6,h7⟩:=h;exact⟨⟨h1.other _ _ (by simp;try omega),h2.other _ _ (by simp;try omega),h3.other _ _ (by simp;try omega)⟩,h4.other _ _ (by simp;try omega),h5.set 1 _,h6.other _ _ (by simp;try omega),h7.other _ _ (by simp;try omega)⟩
theorem gg.other {w:World} {B X o:Nat} {fn:Int} {bs:Value} (h:gg w B fn bs) (v:Value) (hX:X <=B\/B+8 <=X):gg (w.setCell ⟨X,o,none⟩ v) B fn bs:=by
 obtain⟨⟨h1,h2,h3⟩,h4,h5,h6,h7⟩:=h;exact⟨⟨h1.other _ _ (by simp;omega),h2.other _ _ (by simp;omega),h3.other _ _ (by simp;omega)⟩,h4.other _ _ (by simp;omega),h5.other _ _ (by simp;omega),h6.other _ _ (by simp;omega),h7.other _ _ (by simp;omega)⟩
theorem tZ (l:List eP):jY l=(l.zip (l.map fun _=>Value.slice none 0 0)).flatMap rA:=by
 unfold jY
 induction l with
 | nil=>rfl
 | cons x l ih=>
  rw [bL,bF,List.zip_cons_cons,bL,ih];rfl
def tI (l:List eP):Prop:=∀x∈l,x.l=[]/\iR x.op/\iR x.a/\iR x.b
theorem yk (w:World) (l:List eP) (hl:tI l) (i:Nat) (x:eP) (u:Value) (hx:l[i]?=some x) (hu:(l.map fun _=>Value.slice none 0 0)[i]?=some u):gD w x u:=by
 rw [cM,hx]at hu;injection hu with hu;obtain⟨h0,h1,h2,h3⟩:=hl x (aN hx);subst hu;refine⟨?_,h1,h2,h3,?_⟩
 ·rw [h0]
  exact ee.nil w
 ·rw [h0]
  simp
theorem eD.body {w:World} {X:Nat} {t:TypeId} {xs:Array Value} (h:eD w X xs t) (l:List eP) (rest:List Value) (hx:xs.toList=jY l++rest) (hl:tI l) (cap:Nat) (hc:l.length <=cap) (hm:cap <=maxLen):
  gu w (rowAt X l.length cap) l:=
 h.deep La l (l.map fun _=> .slice none 0 0) (by simp) rest (by rw [hx,tZ]) cap hc hm (yk w l hl)
theorem zZ:tI fQ:=by
 intro x hx;simp [fQ]at hx;rcases hx with rfl | rfl | rfl <;>simp [iR]
theorem gg.body {w:World} {B:Nat} {fn:Int} {bs:Value} (h:gg w B fn bs) (n:Nat) (hn:n <=3):gu w (rowAt (B+6) n 3) (fQ.take n):=by
 have hl:(fQ.take n).length=n:=by
  rw [aP];show min n 3=n;omega
 have:=h.2.2.2.1.body (fQ.take n) (jY (fQ.drop n)) (by
  unfold jY;rw [<- List.flatMap_append,cB]) (fun x hx=>zZ x (cC hx)) 3 (by omega) (by decide)
 rwa [hl]at this
theorem gg.is {w:World} {B:Nat} {fn:Int} {bs:Value} (h:gg w B fn bs) {body:List eP} (hb:gu w bs body) (hf:iR fn):eo w (gV B) (eS fn body):=by
 obtain⟨⟨h1,h2,h3⟩,h4,h5,h6,h7⟩:=h;refine⟨?_,ee.nil w,?_,ee.nil w,?_,ef.nil w,?_,ef.nil w,?_⟩
 ·refine h3.deep Kl [⟨[1,1],[1]⟩] [(rowAt (B+1) 2 2,rowAt (B+2) 1 1)] rfl [] rfl 1 (ag _) (by decide) ?_
  intro i x u hx hu;cases i with
  | zero=>
   injection hx with hx;injection hu with hu;subst hx hu;exact⟨⟨h1.rws vE [1,1] [] rfl 2 (ag _) (by decide),h2.rws vE [1] [] rfl 1 (ag _) (by decide)⟩,by simp [gw.ok,iR]⟩
  | succ i=>simp at hx
 ·exact h4.rws vE [0] [] rfl 1 (ag _) (by decide)
 ·exact h5.rws J6 [⟨mg,fn⟩] [] rfl 1 (ag _) (by decide)
 ·refine h7.deep Ka [⟨[],body⟩] [(.slice none 0 0,bs)] rfl [] rfl 1 (ag _) (by decide) ?_
  intro i x u hx hu;cases i with
  | zero=>
   injection hx with hx;injection hu with hu;subst hx hu;exact⟨⟨ee.nil w,hb⟩,by simp⟩
  | succ i=>simp at hx
 ·refine⟨by simp [eS],by simp [eS,iR],by simp [eS,fN.ok,iR],by simp [eS,fN.ok,iR],by simp [eS],?_⟩
  simpa [eS] using hf
def E9 (w:World) (e:Ending) (w':World):Prop:=e= .returned (.agg ((gV w.heap.size).cells (eS 0 fQ)))/\gg w' w.heap.size 0 (rowAt (w.heap.size+6) 3 3)/\Below w.heap.size w w'/\w'.heap.size=w.heap.size+8
def pL (B:Nat):List Obj:=[Obj.cells ((gV B).cells (eS 0 fQ)) 35,Obj.cells #[.int .i64 1, .int .i64 1] 3,Obj.cells #[.int .i64 1] 3,Obj.cells #[rowAt (B+1) 2 2,rowAt (B+2) 1 1] 69,Obj.cells #[.int .i64 0] 3,Obj.cells #[.string mg, .int .i64 0] 75,Obj.cells (jY fQ).toArray 39,Obj.cells #[.slice none 0 0,rowAt (B+6) 3 3] 41]
theorem ig (w:World):Calls prog 18 #[] w (E9 w):=by
 go_enter func18,ntmps18;go_wp2_with fail;have H:=n8 w (pL w.heap.size);have G:=uF w (pL w.heap.size);have g:eD (pq w (pL w.heap.size)) w.heap.size ((gV w.heap.size).cells (eS 0 fQ)) 35:=G 0 _ _ rfl;have HS:gg (pq w (pL w.heap.size)) w.heap.size 0 (rowAt (w.heap.size+6) 3 3):=
  ⟨⟨G 1 _ _ rfl,G 2 _ _ rfl,G 3 _ _ rfl⟩,G 4 _ _ rfl,G 5 _ _ rfl,G 6 _ _ rfl,G 7 _ _ rfl⟩
 refine aF (ej rfl _ _ rfl g.mh) rfl ?_;exact⟨rfl,HS,H.1,H.2⟩
def wG (l:List UInt8):ByteArray:=⟨l.toArray⟩
def oJ (r:List Int) (body:List eP):eu:=⟨[⟨[],r⟩,⟨[],[]⟩,⟨[1],[1]⟩,⟨[2,1],[2]⟩],[⟨wG [119],wG [102],2⟩,⟨wG [119],wG [103],1⟩],[0,3],⟨true,4,-1⟩,⟨true,1,3⟩,[⟨true,⟨1,0⟩⟩,⟨false,⟨2,5⟩⟩],[⟨wG [109,97,105,110],2⟩],[⟨0,[0,2,3]⟩],[⟨[],body⟩,⟨[],[⟨32,0,0,[]⟩]⟩],[]⟩
def nw (body:List eP):eu:=oJ [] body
def yO (B:Nat):eE:=⟨rowAt (B+6) 4 4,rowAt (B+7) 2 2,rowAt (B+8) 2 2,rowAt (B+9) 2 2,rowAt (B+10) 1 1,rowAt (B+12) 1 1,rowAt (B+14) 2 2, .slice none 0 0⟩
def xN (w:World) (B:Nat) (rs bs:Value):Prop:=
 (eD w (B+2) #[.int .i64 1] 3/\eD w (B+3) #[.int .i64 1] 3/\eD w (B+4) #[.int .i64 2, .int .i64 1] 3/\eD w (B+5) #[.int .i64 2] 3/\
  eD w (B+6) #[.slice none 0 0,rs, .slice none 0 0, .slice none 0 0,rowAt (B+2) 1 1,rowAt (B+3) 1 1,rowAt (B+4) 2 2,rowAt (B+5) 1 1] 69)/\
 (eD w (B+7) #[.string (wG [119]), .string (wG [102]), .int .i64 2, .string (wG [119]), .string (wG [103]), .int .i64 1] 71/\eD w (B+8) #[.int .i64 0, .int .i64 3] 3/\
  eD w (B+9) #[.bool true, .int .i64 1, .int .i64 0, .bool false, .int .i64 2, .int .i64 5] 73/\eD w (B+10) #[.string (wG [109,97,105,110]), .int .i64 2] 75)/\
 (eD w (B+11) #[.int .i64 0, .int .i64 2, .int .i64 3] 3/\eD w (B+12) #[.int .i64 0,rowAt (B+11) 3 3] 77)/\
 eD w (B+13) #[.int .i64 32, .int .i64 0, .int .i64 0, .slice none 0 0] 39/\eD w (B+14) #[.slice none 0 0,bs, .slice none 0 0,rowAt (B+13) 1 1] 41
theorem xN.is {w:World} {B:Nat} {rs bs:Value} {r:List Int} (h:xN w B rs bs) (hr:ee 1 eU w rs r) (hk:gw.ok ⟨[],r⟩) {body:List eP} (hb:gu w bs body):eo w (yO B) (oJ r body):=by
 obtain⟨⟨h1,h2,h3,h4,h5⟩,⟨h6,h7,h8,h9⟩,⟨h10,h11⟩,NP,h13⟩:=h;refine⟨?_,h6.rws KP [⟨wG [119],wG [102],2⟩,⟨wG [119],wG [103],1⟩] [] rfl 2 (ag _) (by decide),h7.rws vE [0,3] [] rfl 2 (ag _) (by decide),h8.rws KW [⟨true,⟨1,0⟩⟩,⟨false,⟨2,5⟩⟩] [] rfl 2 (ag _) (by decide),h9.rws J6 [⟨wG [109,97,105,110],2⟩] [] rfl 1 (ag _) (by decide),?_,?_,ef.nil w,?_⟩
 ·refine h5.deep Kl [⟨[],r⟩,⟨[],[]⟩,⟨[1],[1]⟩,⟨[2,1],[2]⟩] [(.slice none 0 0,rs),(.slice none 0 0, .slice none 0 0),(rowAt (B+2) 1 1,rowAt (B+3) 1 1),(rowAt (B+4) 2 2,rowAt (B+5) 1 1)] rfl [] rfl 4 (ag _) (by decide) ?_
  intro i x u hx hu
  match i,hx,hu with
  | 0,hx,hu=>
   injection hx with hx;injection hu with hu;subst hx hu;exact⟨⟨ee.nil w,hr⟩,hk⟩
  | 1,hx,hu=>
   injection hx with hx;injection hu with hu;subst hx hu;exact⟨⟨ee.nil w,ee.nil w⟩,by simp [gw.ok]⟩
  | 2,hx,hu=>
   injection hx with hx;injection hu with hu;subst hx hu;exact⟨⟨h1.rws vE [1] [] rfl 1 (ag _) (by decide),h2.rws vE [1] [] rfl 1 (ag _) (by decide)⟩,by simp [gw.ok,iR]⟩
  | 3,hx,hu=>
   injection hx with hx;injection hu with hu;subst hx hu;exact⟨⟨h3.rws vE [2,1] [] rfl 2 (ag _) (by decide),h4.rws vE [2] [] rfl 1 (ag _) (by decide)⟩,by simp [gw.ok,iR]⟩
  | i+4,hx,hu=>simp at hx
 ·refine h11.deep Lk [⟨0,[0,2,3]⟩] [rowAt (B+11) 3 3] rfl [] rfl 1 (ag _) (by decide) ?_
  intro i x u hx hu
  match i,hx,hu with
  | 0,hx,hu=>
   injection hx with hx;injection hu with hu;subst hx hu;exact⟨h10.rws vE [0,2,3] [] rfl 3 (ag _) (by decide),by simp [jh.ok,iR]⟩
  | i+1,hx,hu=>simp at hx
 ·refine h13.deep Ka [⟨[],body⟩,⟨[],[⟨32,0,0,[]⟩]⟩] [(.slice none 0 0,bs),(.slice none 0 0,rowAt (B+13) 1 1)] rfl [] rfl 2 (ag _) (by decide) ?_
  intro i x u hx hu
  match i,hx,hu with
  | 0,hx,hu=>
   injection hx with hx;injection hu with hu;subst hx hu;exact⟨⟨ee.nil w,hb⟩,by simp⟩
  | 1,hx,hu=>
   injection hx with hx;injection hu with hu;subst hx hu;exact⟨⟨ee.nil w,NP.body [⟨32,0,0,[]⟩] [] rfl (by simp [tI,iR]) 1 (ag _) (by decide)⟩,by simp⟩
  | i+2,hx,hu=>simp at hx
 ·refine⟨by simp [oJ,iR],by simp [oJ,iR],by simp [oJ,fN.ok,iR],by simp [oJ,fN.ok,iR],by simp [oJ,eX.ok],by simp [oJ,iR]⟩
def re (B:Nat):List Obj:=[Obj.cells ((yO B).cells (nw [])) 35,Obj.cells #[.slice none 0 0, .slice none 0 0] 69,Obj.cells #[.int .i64 1] 3,Obj.cells #[.int .i64 1] 3,Obj.cells #[.int .i64 2, .int .i64 1] 3,Obj.cells #[.int .i64 2] 3,
 Obj.cells #[.slice none 0 0, .slice none 0 0, .slice none 0 0, .slice none 0 0,rowAt (B+2) 1 1,rowAt (B+3) 1 1,rowAt (B+4) 2 2,rowAt (B+5) 1 1] 69,
 Obj.cells #[.string (wG [119]), .string (wG [102]), .int .i64 2, .string (wG [119]), .string (wG [103]), .int .i64 1] 71,Obj.cells #[.int .i64 0, .int .i64 3] 3,
 Obj.cells #[.bool true, .int .i64 1, .int .i64 0, .bool false, .int .i64 2, .int .i64 5] 73,Obj.cells #[.string (wG [109,97,105,110]), .int .i64 2] 75,
 Obj.cells #[.int .i64 0, .int .i64 2, .int .i64 3] 3,Obj.cells #[.int .i64 0,rowAt (B+11) 3 3] 77,
 Obj.cells #[.int .i64 32, .int .i64 0, .int .i64 0, .slice none 0 0] 39,Obj.cells #[.slice none 0 0, .slice none 0 0, .slice none 0 0,rowAt (B+13) 1 1] 41]
def Ii (w:World) (e:Ending) (w':World):Prop:=e= .returned (.agg ((yO w.heap.size).cells (nw [])))/\xN w' w.heap.size (.slice none 0 0) (.slice none 0 0)/\Below w.heap.size w w'/\w'.heap.size=w.heap.size+15
theorem zA (w:World):Calls prog 6 #[.slice none 0 0, .int .i64 0] w (Ii w):=by
 go_enter func6,ntmps6;go_wp2_with fail;refine dq 1 ?_;rw [cI];go_wp2_with fail;have H:=n8 w (re w.heap.size);have G:=uF w (re w.heap.size);have g:eD (pq w (re w.heap.size)) w.heap.size ((yO w.heap.size).cells (nw [])) 35:=G 0 _ _ rfl;have HS:xN (pq w (re w.heap.size)) w.heap.size (.slice none 0 0) (.slice none 0 0):=
  ⟨⟨G 2 _ _ rfl,G 3 _ _ rfl,G 4 _ _ rfl,G 5 _ _ rfl,G 6 _ _ rfl⟩,⟨G 7 _ _ rfl,G 8 _ _ rfl,G 9 _ _ rfl,G 10 _ _ rfl⟩,⟨G 11 _ _ rfl,G 12 _ _ rfl⟩,G 13 _ _ rfl,G 14 _ _ rfl⟩
 refine aF (ej rfl _ _ rfl g.mh) rfl ?_;exact⟨rfl,HS,H.1,H.2⟩
def rQ:eu:=⟨[],[],[0],⟨false,0,0⟩,⟨false,0,0⟩,[],[],[],[],[]⟩
theorem AU:(eS 0 fQ).may:=by decide
theorem A4:8 < (fA (eS 0 fQ)).length:=by decide
theorem Gi:m0.may/\(fA m0).length=8:=by decide
theorem Gg:¬ rQ.may:=by decide
theorem J7:qu [120]=none:=by decide
theorem Bz:gF (eS 0 fQ) 0=true/\gF (eS 0 (fQ.take 2)) 0=false/\gF (eS 0 [⟨0,0,0,[]⟩,⟨106,0,0,[]⟩]) 0=true/\gF (eS 0 fQ) 1=false:=by decide
theorem mV:iW (eS 0 fQ)= -1/\iW (eS 1 fQ)=7/\iW rQ=0:=by decide
theorem AZ:iW (nw [])= -1:=by decide
theorem zR (w:World) (X:Nat) (v:Value) (h:w.cell? ⟨X,14,none⟩=some v):Calls prog 129 #[.pointer (some ⟨X,0,none⟩)] w (fi v w):=by
 go_enter func129,ntmps129;go_wp2;go_ret;exact⟨rfl,an _ _⟩
theorem vU (w:World) (X:Nat) (v:Value) (h:w.cell? ⟨X,15,none⟩=some v):Calls prog 87 #[.pointer (some ⟨X,0,none⟩)] w (fi v w):=by
 go_enter func87,ntmps87;go_wp2;go_ret;exact⟨rfl,an _ _⟩
theorem qb (w:World) (X b off cap:Nat) (fn:Int) (nm:ByteArray) (h:w.cell? ⟨X,10,none⟩=some (.slice (some ⟨b,off,none⟩) 1 cap)) (hc:1 <=cap/\cap <=maxLen) (h0:w.cell? ⟨b,off,none⟩=some (.string nm)) (h1:w.cell? ⟨b,off+1,none⟩=some (.int .i64 fn)):
  Calls prog 22 #[.pointer (some ⟨X,0,none⟩), .string nm] w (fi (.tuple #[.int .i64 fn, .bool true]) w):=by
 have hm:=hc.2;have N3:=hc.1;unfold maxLen at hm;clear hc;have HB:=V ((an w.heap.size w).alloc (ag _) (.cells #[.string nm, .int .i64 fn] 75));go_enter func22,ntmps22;go_wp2_with fail;refine dq 1 ?_;rw [cI];go_wp2_with fail;refine aF (results_tmp2 rfl _ _ _) rfl ?_;exact⟨rfl,HB.out⟩
theorem oW (w:World) (X b off cap:Nat) (fn:Int) (nm nm2:ByteArray) (h:w.cell? ⟨X,10,none⟩=some (.slice (some ⟨b,off,none⟩) 1 cap)) (hc:1 <=cap/\cap <=maxLen) (h0:w.cell? ⟨b,off,none⟩=some (.string nm)) (h1:w.cell? ⟨b,off+1,none⟩=some (.int .i64 fn)) (_hne:(nm.toList==nm2.toList)=false):
  Calls prog 22 #[.pointer (some ⟨X,0,none⟩), .string nm2] w (fi (.tuple #[.int .i64 0, .bool false]) w):=by
 have hm:=hc.2;have N3:=hc.1;unfold maxLen at hm;clear hc;have HB:=V ((an w.heap.size w).alloc (ag _) (.cells #[.string nm, .int .i64 fn] 75));go_enter func22,ntmps22;go_wp2_with fail;refine dq 2 ?_;rw [cI];go_wp2_with fail;rw [cI];go_wp2_with fail;refine aF (results_tmp2 rfl _ _ _) rfl ?_;exact⟨rfl,HB.out⟩
theorem oS:gH (gr (eS 0 fQ)) (eS 0 fQ).elems=some (gr (eS 0 fQ)):=rfl
theorem BC (r:List Int) (b:List eP):(oJ r b).words:=⟨fun x hx=>by
 simp only [oJ,bH,bP,da]at hx;rcases hx with rfl | rfl <;>exact⟨by show(1:Nat) <=1000000000000;omega,by show(1:Nat) <=1000000000000;omega⟩,fun x hx=>by
 obtain rfl:=aV.1 hx;show(4:Nat) <=1000000000000;omega⟩
def Eo:yr:=(gH (gr (nw [])) (nw []).elems).getD ⟨[],[]⟩
theorem Bl (r:List Int) (b:List eP):gH (gr (oJ r b)) (oJ r b).elems=some Eo:=by
 show gH (gr (nw [])) (nw []).elems=_;obtain⟨x,hx⟩:=Option.isSome_iff_exists.1 (show(gH (gr (nw [])) (nw []).elems).isSome=true by decide);unfold Eo;rw [hx];rfl
section
theorem FU (k n:Int) (h:eX.may ⟨k,n⟩) (w:World):Calls prog 46 #[.int .i64 k, .agg #[.int .i64 k, .int .i64 n]] w (fi (.bool true) w):=by
 have hb:=(an w.heap.size w).alloc (ag _) (.cells #[.int .i64 k, .int .i64 n] 52);obtain⟨x0,x1,-,-⟩:=(eD.new w #[.int .i64 k, .int .i64 n] 52).two;have f1:(k==k)=true:=eI rfl;have f2:=ay h;have HB:=V hb;clear hb h;go_enter func46,ntmps46;go_wp2_with fail;refine(lK ⟨k,n⟩ _).mono ?_;rintro e w1 ⟨rfl,hb⟩;rw [f2];go_wp2;go_ret;exact⟨rfl,dT HB.out hb⟩
def tK (r:Bool) (ks:List Int) (l:List eX):Prop:=(r=true/\ks=l.map eX.kind/\∀v∈l,v.may)\/(r=false/\ks.length≠l.length)
theorem yw (vk va:Value) (ks:List Int) (l:List eX) (r:Bool) (w:World) (hk:ee 1 eU w vk ks) (hv:ee 2 fD w va l) (h:tK r ks l):
  Calls prog 45 #[vk,va, .func (.func 46) #[] #[]] w (fi (.bool r) w):=by
 have HK:=V hk;have HV:=V hv;obtain⟨a,cap,rfl,h1,h2,-⟩:=hk;obtain⟨a2,LA,rfl,h3,h4,-⟩:=hv;unfold maxLen at h2 h4;rcases h with⟨rfl,Mi,hm⟩ | ⟨rfl,MO⟩;rotate_left
 ·have f1:(((ks.length:Int)) !=((l.length:Int)))=true:=fa (by omega)
  go_enter func45,ntmps45;go_wp2;go_ret;exact⟨rfl,an _ _⟩
 have hlen:ks.length=l.length:=by rw [Mi,bD]
 have HKL:=V Mi;have HM:=V hm;clear Mi hm;rw [hlen]at HK h1⊢;clear hlen;go_enter func45,ntmps45;go_wp2_with fail;refine eC (fun a' w'=>∃(k:Nat),a'=fr (.slice a l.length cap:: .slice a2 l.length LA:: .func (.func 46) #[] #[]::gs a' 3 12 (.slice a l.length cap:: .int .i64 l.length:: .int .i64 k::gs a' 18 14 []))/\k <=l.length/\Below w.heap.size w w') (fun a' _=>(l.length - (intOf (a'.tmps.getD 17 undef)).toNat)) ?_ ?_
 ·exact⟨0,rfl,bB _,an _ _⟩
 ·skip
  rintro R a' w1 ⟨k,Lv,hJ⟩ HR;dsimp only [fr,gs]at Lv;generalize slot a'=f at Lv;subst Lv;obtain⟨hk,hb⟩:=hJ;have HB:=V hb;by_cases q:k < l.length;rotate_left
  ·obtain rfl:k=l.length:=by omega
   clear hb;go_wp2;go_ret;exact⟨rfl,HB.out⟩
  obtain⟨v,hv⟩:∃v,l[k]?=some v:=⟨_,aq q⟩;have M7:ks[k]?=some v.kind:=by rw [HKL.out,cM,hv];rfl
  have hlk:ks.length=l.length:=by rw [HKL.out,bD]
  have hK:=HK.out.below hb;rw [<- hlk]at hK;obtain⟨bk,ok,ck,he,-,-,hltk,hck⟩:=ee.at hK M7;obtain⟨bv,ov,cv,M9,-,-,hltv,M6⟩:=ee.at (HV.out.below hb) hv;injection he with e1 _ e2;injection M9 with e3 _ e4;subst e1 e2 e3 e4;have k0:w1.cell? ⟨bk,ok+k,none⟩=some (.int .i64 v.kind):=by
   have:=hck 0 _ rfl
   rwa [aY,aI]at this
  have v0:w1.cell? ⟨bv,ov+k*2,none⟩=some (.int .i64 v.kind):=M6 0 _ rfl;have v1:w1.cell? ⟨bv,ov+k*2+1,none⟩=some (.int .i64 v.n):=M6 1 _ rfl;have HMV:=V (HM.out v (aN hv));clear hK hck M6 hv M7 hb hlk;have hb:=(an w1.heap.size w1).alloc (ag _) (.cells #[.int .i64 v.kind, .int .i64 v.n] 52);replace HB:=V (dT HB.out hb);clear hb;go_wp2_with fail;clear k0 v0 v1;refine(FU v.kind v.n HMV.out _).mono ?_;rintro e w2 ⟨rfl,hb⟩;replace HB:=V (dT HB.out hb);clear hb;go_wp2;refine HR.out _ _ ⟨k+1,rfl,by omega,HB.out⟩ ?_;simp [intOf];omega
section
variable {w:World} {F FX:Nat ->Bool} {X b:Nat} {iv:ly} {m:eu} {q:yD} {s:fy}
theorem jc.inst (h:jc w F FX X b iv m q s):iw w FX X iv m:=by
 obtain⟨a,c,h1,-,-⟩:=h.run;exact h1.inst
theorem An (h:jc w F FX X b iv m q s) (ty:gw) (fn:Int) (args:List eX) (va:Value) (r:Bool) (PM:mC m fn ty) (hk:m.imports.length+m.funcs.length <=100000) (himp:ki m fn=false) (ha:ee 2 fD w va args) (hr:tK r ty.params args):
  Calls prog 23 #[.pointer (some ⟨b,0,none⟩), .int .i64 fn,va] w (fi (.bool r) w):=by
 obtain⟨a,c,⟨y0,-,-,-,-,-,-,-⟩,-,-⟩:=h.cells;have HM:=V h;have HA:=V ha;have HFI:=V hr;obtain⟨aa,ca,rfl,-,-⟩:=ha.sl;clear h ha hr;go_enter func23,ntmps23;go_wp2_with fail;clear y0;refine(pA w FX X iv m HM.out.inst ty fn PM hk).mono ?_;rintro e w2 ⟨u1,u2,rfl,h1,h2,hb⟩;obtain⟨ap,cp,rfl,-,hcp⟩:=h1.sl;obtain⟨ar,cr,rfl,-,hcr⟩:=h2.sl;have h1':=h1.ext (rO FX w2);have Lw:=(an w2.heap.size w2).alloc (ag _) (.cells #[.slice ap ty.params.length cp, .slice ar ty.results.length cr] 69);have HY:=V (eD.new w2 #[.slice ap ty.params.length cp, .slice ar ty.results.length cr] 69);have HP:=V (h1'.below Lw);have HB:=V (dT hb Lw);replace HM:=V (HM.out.below HB.out);replace HA:=V (HA.out.below HB.out);obtain⟨a9,c9,⟨y0,-,-,-,-,-,-,-⟩,-,-⟩:=HM.out.cells;clear h1 h2 hb Lw h1';go_wp2_with fail;refine(kW _ FX X iv m HM.out.inst fn).mono ?_;rw [himp];rintro e w3 ⟨rfl,hb⟩;have HY3:=HY.out.below hb HY.out.lt;have t0:=HY3.two.1;replace HP:=V (HP.out.below hb);replace HA:=V (HA.out.below hb);replace HB:=V (dT HB.out hb);clear hb y0 HY3;go_wp2_with fail;clear t0;refine(yw _ _ ty.params args r w3 HP.out HA.out HFI.out).mono ?_;rintro e w4 ⟨rfl,hb⟩;replace HB:=V (dT HB.out hb);clear hb;go_wp2;go_ret;exact⟨rfl,HB.out⟩
end
def Jr (F FX:Nat ->Bool) (X b:Nat) (iv:ly) (m:eu) (q:yD) (r:gT × fy) (w:World) (e:Ending) (w':World):Prop:=
 e= .returned (.int .i64 0)/\jc w' F FX X b iv m {q with o:=r.1} r.2/\dU (fun g=>F g=false) w w'
def J1 (ok:Bool) (kind:Int) (r:Bool) (err:Int):Prop:=(ok=false/\err=9)\/(ok=true/\((r=false/\err=6)\/(r=true/\kind=1/\err=12)))
theorem ph (w:World) (F FX:Nat ->Bool) (X b:Nat) (iv:ly) (m:eu) (q:yD) (s:fy) (h:jc w F FX X b iv m q s) (nm:ByteArray) (va:Value) (args:List eX) (fn:Int) (ok r:Bool) (err:Int) (ty:gw) (MR:J1 ok q.o.kind r err) (ha:ee 2 fD w va args)
  (hex:Calls prog 22 #[.pointer (some ⟨X,0,none⟩), .string nm] w (fi (.tuple #[.int .i64 fn, .bool ok]) w)) (PM:ok=true ->mC m fn ty/\tK r ty.params args) (hk:m.imports.length+m.funcs.length <=100000) (himp:ki m fn=false):
  Calls prog 8 #[.pointer (some ⟨b,0,none⟩), .string nm,va] w (fi (.int .i64 err) w):=by
 obtain⟨a,c,⟨y0,-,-,-,-,-,-,-⟩,-,-⟩:=h.cells;have HM:=V h;have HA:=V ha;have HEX:=V hex;have P2:=V PM;obtain⟨aa,ca,rfl,-,-⟩:=ha.sl;clear h ha hex PM;go_enter func8,ntmps8;go_wp2_with fail;clear y0;refine HEX.out.mono ?_;rintro e w1 ⟨rfl,hb⟩;have HB:=V hb;replace HM:=V (HM.out.below hb);replace HA:=V (HA.out.below hb);clear hb;rcases MR with⟨rfl,rfl⟩ | ⟨rfl,MR⟩
 ·go_wp2
  go_ret;exact⟨rfl,HB.out⟩
 have HNO:=V MR;obtain⟨ht1,ht2⟩:=P2.out rfl;have HT1:=V ht1;have HT2:=V ht2;clear MR P2 ht1 ht2;go_wp2_with fail;refine(An HM.out ty fn args _ r HT1.out hk himp HA.out HT2.out).mono ?_;rintro e w2 ⟨rfl,hb⟩;replace HM:=V (HM.out.below hb);replace HB:=V (dT HB.out hb);clear hb;rcases HNO.out with⟨rfl,rfl⟩ | ⟨rfl,QF,rfl⟩
 ·go_wp2
  go_ret;exact⟨rfl,HB.out⟩
 obtain⟨a9,c9,⟨-,y4,-,-,-,-,-,-⟩,-,-⟩:=HM.out.cells;rw [QF]at y4;go_wp2;go_ret;exact⟨rfl,HB.out⟩
end
theorem Ec (ks:List Int) (s:fy) (f:Int) (args:List eX):(mT ks s f args).1.dX=[]/\((mT ks s f args).1.kind=1\/(mT ks s f args).1.kind=5):=by
 unfold mT;split
 ·exact⟨rfl, .inr rfl⟩
 ·exact⟨rfl, .inl rfl⟩
theorem DH (w:World) (F FX:Nat ->Bool) (X b:Nat) (iv:ly) (m:eu) (q:yD) (s:fy) (h:jc w F FX X b iv m q s) (nm:ByteArray) (va:Value) (args:List eX) (k:Nat) (c:hI) (ty:gw) (fn:Int) (QF:q.o.kind=0) (ha:∀w2,Below w.heap.size w w2 ->ee 2 fD w2 va args/\ee 2 fD (sB w2 b) va args)
  (hex:Calls prog 22 #[.pointer (some ⟨X,0,none⟩), .string nm] w (fi (.tuple #[.int .i64 fn, .bool true]) w)) (PM:mC m fn ty) (hfit:tK true ty.params args)
  (hc:m.eh[k]?=some c) (hf:fn=((m.imports.length+k:Nat):Int)) (hk:m.imports.length+m.funcs.length <=100000) (M7:k <=100000) (hl:ty.params.length+c.locals.length <=100000) (Ng:args.length <=(ty.params++c.locals).length):
  Calls prog 8 #[.pointer (some ⟨b,0,none⟩), .string nm,va] w (Jr F FX X b iv m q (mT (ty.params++c.locals) ⟨[],[],-1⟩ fn args) w):=by
 obtain⟨a,cc,⟨y0,-,-,-,-,-,-,-⟩,-,-⟩:=h.cells;have HM:=V h;have HA:=V ha;have HEX:=V hex;have P2:=V PM;have HFI:=V hfit;have HC:=V hc;have HF:=V hf;have HKD:=V QF;have HAL:=V Ng;have himp:ki m fn=false:=by unfold ki;rw [hf];simp;omega
 obtain⟨aa,ca,rfl,-,-⟩:=(ha w (an _ _)).1.sl;clear h ha hex PM hfit hc hf QF Ng;go_enter func8,ntmps8;go_wp2_with fail;clear y0;refine HEX.out.mono ?_;rintro e w1 ⟨rfl,hb⟩;have HB:=V hb;replace HM:=V (HM.out.below hb);clear hb;go_wp2_with fail;refine(An HM.out ty fn args _ true P2.out hk himp (HA.out _ HB.out).1 HFI.out).mono ?_;rintro e w2 ⟨rfl,hb⟩;replace HM:=V (HM.out.below hb);replace HB:=V (dT HB.out hb);clear hb himp;obtain⟨a9,c9,⟨-,y4,-,-,-,-,-,-⟩,-,hz⟩:=HM.out.cells;rw [HKD.out]at y4;have z1:=hz 1;have z2:=hz 2;have z3:=hz 3;clear hz;obtain⟨a8,c8,hr,-,hFb⟩:=HM.out.run;obtain⟨v9,hv9,-⟩:=hr.st;have k1:w2.cell? ⟨b,1,none⟩=some v9.uv:=hv9.c0;have k2:w2.cell? ⟨b,2,none⟩=some v9.uf:=hv9.c1;have k3:w2.cell? ⟨b,3,none⟩=some (.int .i64 s.asks):=hv9.c2;clear hv9;have Lx:=oU w2 b;obtain⟨w3,hw3⟩:∃w3,w3=sB w2 b:=⟨_,rfl⟩;have HR:=V (show iE w3 F FX X b iv m [.pointer (some ⟨X,0,none⟩)] (sy q.o (.slice a8 q.o.dX.length c8) q.n q.calls q.GM) 81 ⟨[],[],-1⟩by rw [hw3];exact hr.sB hFb);have HA3:=V (show ee 2 fD w3 (.slice aa args.length ca) args by rw [hw3];exact(HA.out _ HB.out).2);have HK:=V (show dU (fun g=>F g=false) w w3 by rw [hw3];exact(dU.dW (S:=fun g=>F g=false) HB.out).trans (Lx.mono (fun i hi=>by rw [hi];exact hFb)) (fun i hi=> .inl hi));have HBM:=V (And.intro HM.out.bc (And.intro HM.out.bn HM.out.bm));unfold sB at hw3;clear hr Lx HM HB HA;go_wp2_with fail;rw [<- hw3];clear hw3 y4 z1 z2 z3 k1 k2 k3;have hS:w3.drew.cell? ⟨b,0,none⟩=some (.pointer (some ⟨X,0,none⟩)):=HR.out.pw.1;refine eK (fun w'=>w'.cell? ⟨b,0,none⟩=some (.pointer (some ⟨X,0,none⟩))) 13 (up 0 10 ((10,false)::(11,true)::(12,true)::[])) (by kernel_rfl) (by kernel_rfl) hS ?_;clear hS;replace HR:=V (HR.out.below (an _ _).drew);replace HA3:=V (HA3.out.below (an _ _).drew);replace HK:=V HK.out.drew;generalize w3.drew=w4 at HR HA3 HK⊢;iterate 10 (first | (apply sk rfl rfl;simp only [pt]) | (apply dV rfl rfl rfl;·(rintro w' t0;go_wp2;exact⟨rfl,rfl,rfl⟩)))
 refine dZ rfl rfl ?_;go_wp2_with fail;refine(iE.call w4 F FX X b iv m [.pointer (some ⟨X,0,none⟩)] _ _ ⟨[],[],-1⟩ HR.out k c ty fn args _ HC.out HF.out P2.out hk M7 hl HA3.out HAL.out (by simp) (by simp)).mono ?_;rintro e w5 ⟨vv,rfl,LJ,Ok,N7⟩;obtain⟨rr,hrr⟩:∃rr,mT (ty.params++c.locals) ⟨[],[],-1⟩ fn args=rr:=⟨_,rfl⟩;have P3:=(Ec (ty.params++c.locals) ⟨[],[],-1⟩ fn args).1;rw [hrr]at LJ Ok P3;have ND:=V hrr;obtain⟨av,cv,rfl,-,-⟩:=Ok.slice;have NK:=V LJ;have OS:=V Ok;have HK5:=V (HK.out.trans N7 (fun i hi=> .inl hi));have HFW:=V P3;clear LJ Ok N7 P3 hrr;simp only [lS];go_wp2_with fail;refine⟨NK.out.pw.1,?_⟩;iterate 2 (first | (apply sk rfl rfl;simp only [pt]) | (apply dV rfl rfl rfl;·(rintro w' t0;go_wp2;exact⟨rfl,rfl,rfl⟩)))
 refine fu rfl rfl ?_;obtain⟨⟨k4,k5,k6,k7⟩,z4,z5,z6,z7⟩:=NK.out.Kh;go_wp2;refine⟨trivial,?_⟩;refine aA ?_;go_wp2;go_ret;rw [ND.out];refine⟨rfl,jc.of NK.out hFb OS.out (by rw [HFW.out];simp) HBM.out.1 HBM.out.2.1 HBM.out.2.2,HK5.out.trans ((oP w5 b _ _).mono (fun i hi=>by rw [hi];exact hFb)) (fun i hi=> .inl hi)⟩
theorem DU (w:World) (F FX:Nat ->Bool) (X b:Nat) (iv:ly) (m:eu) (q:yD) (dX:List eX) (lo:List eR) (fq:eR) (asks:Int) (h:jc w F FX X b iv m q ⟨dX,lo++[fq],asks⟩) (k pc:Nat) (c:hI) (hc:m.eh[k]?=some c) (hf:fq.fn=((m.imports.length+k:Nat):Int)) (M7:m.imports.length+k <=100000)
  (OG:fq.pc=(pc:Int)) (No:∀x,c.body[pc]?=some x ->ry x.op):
  Calls prog 26 #[.pointer (some ⟨b,0,none⟩)] w (fi (.complex .f64 (fl 1) (fl 0)) w):=by
 have HM:=V h;have HC:=V hc;have HF:=V hf;have HOP:=V No;have HPC:=V OG;obtain⟨a,cc,hr,-,-⟩:=h.run;obtain⟨g,cap,al,cl,la,lc,-,c1,L7,Nc,⟨p0,p1,p2,p3,p4⟩,-,-,-⟩:=(hr.below (an _ _).drew).K0;replace c1:w.drew.cell? ⟨b,2,none⟩=some (.slice (some ⟨g,0,none⟩) (lo.length+1) cap):=c1;have HS:=V (And.intro c1 (And.intro p0 (And.intro p1 (And.intro p2 (And.intro p3 p4)))));clear hr h hc hf No OG;go_enter func26,ntmps26;go_wp2_with fail;refine eK (fun w'=>w'.cell? ⟨b,2,none⟩=some (.slice (some ⟨g,0,none⟩) (lo.length+1) cap)/\w'.cell? ⟨g,lo.length*5,none⟩=some (.int .i64 fq.fn)/\w'.cell? ⟨g,lo.length*5+1,none⟩=some (.int .i64 fq.pc)/\w'.cell? ⟨g,lo.length*5+2,none⟩=some (.slice al fq.locals.length cl)/\w'.cell? ⟨g,lo.length*5+3,none⟩=some (.int .i64 fq.base)/\w'.cell? ⟨g,lo.length*5+4,none⟩=some (.slice la fq.labels.length lc))
  15 (up 0 14 ((14,false)::[])) (by kernel_rfl) (by kernel_rfl) ⟨c1,p0,p1,p2,p3,p4⟩ ?_
 clear c1 p0 p1 p2 p3 p4;have hw:Below w.heap.size w w.drew:=(an _ _).drew;have HB:=V hw;clear hw;generalize w.drew=w1 at HS HB⊢;iterate 14 (first | (apply sk rfl rfl;simp only [pt]) | (apply dV rfl rfl rfl;·(rintro w' ⟨t0,t1,t2,t3,t4,t5⟩;go_wp2;exact⟨rfl,rfl,rfl⟩)))
 refine dZ rfl rfl ?_;go_wp2_with fail;have LG:=(an w1.heap.size w1).alloc (ag _) (.cells #[.int .i64 0, .int .i64 0, .slice none 0 0, .int .i64 0, .slice none 0 0] 124);have HE:=V (eD.new w1 #[.int .i64 0, .int .i64 0, .slice none 0 0, .int .i64 0, .slice none 0 0] 124);have HEW:=V HB.out.size;replace HB:=V (HB.out.trans (LG.mono HB.out.size));have hx:=(Ext.dW LG).1;refine⟨⟨hx _ _ HS.out.1,hx _ _ HS.out.2.1,hx _ _ HS.out.2.2.1,hx _ _ HS.out.2.2.2.1,hx _ _ HS.out.2.2.2.2.1,hx _ _ HS.out.2.2.2.2.2⟩,?_⟩;clear LG hx HS;obtain⟨E,hE⟩:∃E,E=w1.heap.size:=⟨_,rfl⟩;rw [<- hE]at HE HEW⊢;clear hE;generalize w1.alloc (.cells #[.int .i64 0, .int .i64 0, .slice none 0 0, .int .i64 0, .slice none 0 0] 124)=w2 at HE HB⊢;refine fu rfl rfl ?_;have e0:=HE.out.cell 0;have e1:=HE.out.cell 1;have e2:=HE.out.cell 2;have e3:=HE.out.cell 3;have e4:=HE.out.cell 4;have z0:=HE.out.free 0;have z1:=HE.out.free 1;have z2:=HE.out.free 2;have z3:=HE.out.free 3;have z4:=HE.out.free 4;simp at e0 e1 e2 e3 e4;go_wp2;refine⟨trivial,?_⟩;refine aA ?_;clear e0 e1 e2 e3 e4 z0 z1 z2 z3 z4;have HE3:=V (((((HE.out.set 0 (.int .i64 fq.fn)).set 1 (.int .i64 fq.pc)).set 2 (.slice al fq.locals.length cl)).set 3 (.int .i64 fq.base)).set 4 (.slice la fq.labels.length lc));have hk:=((((ei w2 E 0 (.int .i64 fq.fn)).trans (ei _ E 1 (.int .i64 fq.pc)) (fun _ h=> .inl h)).trans (ei _ E 2 (.slice al fq.locals.length cl)) (fun _ h=> .inl h)).trans (ei _ E 3 (.int .i64 fq.base)) (fun _ h=> .inl h)).trans (ei _ E 4 (.slice la fq.labels.length lc)) (fun _ h=> .inl h);replace HB:=V (HB.out.trans (hk.below HB.out.size (fun i hi=>by rw [hi];exact HEW.out)));clear hk HE;generalize((((w2.setCell ⟨E,0,none⟩ (.int .i64 fq.fn)).setCell ⟨E,1,none⟩ (.int .i64 fq.pc)).setCell ⟨E,2,none⟩ (.slice al fq.locals.length cl)).setCell ⟨E,3,none⟩ (.int .i64 fq.base)).setCell ⟨E,4,none⟩ (.slice la fq.labels.length lc)=w3 at HB HE3⊢;have HE:=V HE3.out.drew;replace HB:=V HB.out.drew;have Ma:=V (HM.out.below HB.out);clear HE3;obtain⟨a6,c6,⟨y0,-,-,-,-,-,-,-⟩,-,-⟩:=Ma.out.cells;have e0:w3.drew.cell? ⟨E,0,none⟩=some (.int .i64 fq.fn):=(HE.out.cell 0).trans (by simp);have hS:=And.intro y0 e0;clear y0 e0;go_wp2_with fail;refine ea (fun w'=>w'.cell? ⟨b,0,none⟩=some (.pointer (some ⟨X,0,none⟩))/\w'.cell? ⟨E,0,none⟩=some (.int .i64 fq.fn)) (up 0 6 ((6,false)::up 7 5 [])) (by kernel_rfl) (by kernel_rfl) hS ?_;clear hS;generalize w3.drew=w4 at HB HE Ma⊢;iterate 6 (first | (apply sk rfl rfl;simp only [pt]) | (apply dV rfl rfl rfl;·(rintro w' ⟨t0,t1⟩;go_wp2;exact⟨rfl,rfl,rfl⟩)))
 refine dZ rfl rfl ?_;go_wp2_with fail;refine(zL w4 FX X iv m Ma.out.inst k c HC.out _ HF.out M7).mono ?_;rintro e w5 ⟨body,J,rfl,NN,-,hb⟩;replace HB:=V (HB.out.trans (hb.mono HB.out.size));replace Ma:=V (Ma.out.below hb);replace HE:=V (HE.out.below hb HE.out.lt);obtain⟨ab,cb,PF,-,hcbm⟩:=ef.slice NN;subst PF;have Re:=V NN;clear hb NN;obtain⟨a7,c7,⟨y0,-,-,-,-,-,-,-⟩,-,-⟩:=Ma.out.cells;have e0:=HE.out.cell 0;simp at e0;go_wp2_with fail;refine⟨⟨y0,e0⟩,?_⟩;clear y0 e0;iterate 5 (first | (apply sk rfl rfl;simp only [pt]) | (apply dV rfl rfl rfl;·(rintro w' ⟨t0,t1⟩;go_wp2;exact⟨rfl,rfl,rfl⟩)))
 refine eF ?_;refine aA ?_;have e1:=HE.out.cell 1;simp [HPC.out]at e1;by_cases LD:pc < c.body.length
 ·have f1:decide ((c.body.length:Int) <=(pc:Int))=false:=aw (by omega)
  obtain⟨x,hx⟩:∃x,c.body[pc]?=some x:=⟨_,aq LD⟩;obtain⟨bb,offb,capb,ub,PF,-,-,hbbl,LM,Ml⟩:=ef.at Re.out hx;injection PF with q1 q2 q3;subst q1 q3;have y0:=(fP (LM 0 _ rfl)).2;rw [aI]at y0;simp only at y0;have HOX:=V (HOP.out x hx);clear LM Ml hbbl hx q2;go_wp2_with fail;refine(zW x.op HOX.out _).mono ?_;rintro e w6 ⟨rfl,hb⟩;go_wp2;go_ret;exact⟨rfl,HB.out.trans (hb.mono HB.out.size)⟩
 ·have f1:decide ((c.body.length:Int) <=(pc:Int))=true:=ay (by omega)
  go_wp2_with fail;refine(zW 1 (by unfold ry;decide) _).mono ?_;rintro e w6 ⟨rfl,hb⟩;go_wp2;go_ret;exact⟨rfl,HB.out.trans (hb.mono HB.out.size)⟩
end Go.Proofs.YtjmeglibedbljaaGreatDoor
