import Derived.Test.YtjmeglibedbljaaGreatDoorRunWorldJ9
namespace Go.Proofs.YtjmeglibedbljaaGreatDoor
set_option maxRecDepth 100000
set_option maxHeartbeats 20000000
open Go.RowKit Tryz
open Lib renaming hid->V
set_option linter.all false
theorem eX.DM (c:eX) (k:Int):(c.pop k).2.eu.length <=c.eu.length:=by
 unfold eX.pop;split
 ·exact ag _
 ·split
  ·simp
  ·simp [eX.need]
theorem eX.uW:∀(l:List Int) (c:eX),(c.oo l).eu.length <=c.eu.length
 | [],_=>ag _
 | k::l,c=>aQ (eX.uW l _) (eX.DM c k)
theorem eX.mc (c:eX) (l:List Int):(c.gd l).eu.length <=c.eu.length:=eX.uW _ _
def ig (c:eX):Prop:=c.sound/\c.fc≠[]
theorem ig.top {c:eX} (h:ig c):c.top.fb <=c.eu.length:=h.1.top h.2
theorem ig.pop {c:eX} (h:ig c) (k:Int):ig (c.pop k).2:=⟨h.1.pop h.2 k,by rw [eX.qy];exact h.2⟩
theorem ig.gd {c:eX} (h:ig c) (l:List Int):ig (c.gd l):=⟨h.1.gd h.2 l,by rw [eX.iI];exact h.2⟩
theorem ig.need {c:eX} (h:ig c) (b:Bool):ig (c.need b):=⟨⟨h.1.1,h.1.2⟩,h.2⟩
theorem ig.push {c:eX} (h:ig c) (l:List Int):ig (c.push l):=⟨h.1.push l,h.2⟩
theorem ig.begin {c:eX} (h:ig c) (op kind:Int):ig (c.begin op kind):=⟨h.1.begin op kind,by simp [eX.begin]⟩
theorem ig.fail {c:eX} (h:ig c):ig {c with bad:=true}:=⟨⟨h.1.1,h.1.2⟩,h.2⟩
theorem ig.label {c:eX} (h:ig c) (n:Int):ig (c.label n).2:=by
 unfold eX.label;split
 ·exact h.fail
 ·exact h
theorem tQ (c:eX) (n:Int):(c.label n).2.fc=c.fc/\(c.label n).2.eu=c.eu:=by
 unfold eX.label;split <;>exact⟨rfl,rfl⟩
theorem E3 (c:eX) (n:Int):(c.label n).1.length <=1:=by
 unfold eX.label;split
 ·simp
 ·simp only
  split
  ·simp
  ·unfold gS;split <;>simp
theorem ig.local {c:eX} (h:ig c) (ls:List Int) (n:Int):ig (eX.local ls c n).2:=by
 unfold eX.local;split
 ·exact h.fail
 ·exact h
theorem pJ (c:eX) (ls:List Int) (n:Int):(eX.local ls c n).2.fc=c.fc/\(eX.local ls c n).2.eu=c.eu:=by
 unfold eX.local;split <;>exact⟨rfl,rfl⟩
theorem rm (c:eX):c.shut.2.fc=c.fc.dropLast:=by
 unfold eX.shut eX.DL;simp only [eX.nB,eX.iI]
theorem ss (c:eX):c.shut.2.eu.length <=c.eu.length:=eX.mc c _
theorem Cv {c:eX} (h:ig c):c.shut.2.sound:=by
 have h1:=h.gd (gS c.top.kind);have ht:(c.gd (gS c.top.kind)).top=c.top:=by unfold eX.top;rw [eX.iI]
 have h2:=h1.top;rw [ht]at h2;have hle:=h.1.le_top h.2;refine⟨fun x hx=>?_,?_⟩
 ·rw [rm]at hx
  have:=hle x ((List.dropLast_sublist _).subset hx);exact aQ this h2
 ·rw [rm]
  exact h.1.2.sublist (List.dropLast_sublist _)
theorem CG {c:eX} (h:c.fc≠[]):c.dead.fc.length=c.fc.length:=by
 have:=List.length_pos_iff.2 h;simp [eX.dead];omega
theorem FN (c:eX):c.dead.eu.length <=c.eu.length:=by simp [eX.dead];omega
theorem ig.dead {c:eX} (h:ig c):ig c.dead:=by
 have hle:=h.1.le_top h.2;have ht:=h.top;obtain⟨cs,t,Ro⟩:∃cs t,c.fc=cs++[t]:=⟨c.fc.dropLast,c.fc.getLast h.2,(dg h.2).symm⟩;have htop:c.top=t:=by unfold eX.top;rw [Ro];simp
 have hd:c.dead.fc=cs++[{t with dead:=true}]:=by unfold eX.dead;simp only [Ro,htop];simp
 have hv:c.dead.eu.length=t.fb:=by simp [eX.dead,htop];rw [htop]at ht;omega
 rw [htop]at hle;refine⟨⟨fun x hx=>?_,?_⟩,by rw [hd];simp⟩
 ·rw [hv]
  rw [hd]at hx;rcases bU.1 hx with h1 | h1
  ·exact hle x (by rw [Ro];simp [h1])
  ·rw [aV.1 h1]
   exact ag _
 ·rw [hd]
  have hp:=h.1.2;rw [Ro,db]at hp;rw [db];exact⟨hp.1,by simp,fun a ha b hb=>by rw [aV.1 hb];exact hp.2.2 a ha t (by simp)⟩
def MB (w1:World) (C:Nat) (u:eT) (m:eI) (lv:Value) (c:eX) (l:List Int) (w w':World) (c':eX) (n:Nat):Prop:=
 n <=l.length/\c.gd l=c'.oo (l.take n).reverse/\gB w1 C u m lv w' c'/\ig c'/\ep (fun i=>i=C) w w'/\w'.cell? ⟨C,16,none⟩=w.cell? ⟨C,16,none⟩
theorem oZ (w1:World) (C:Nat) (u:eT) (m:eI) (lv:Value) (w:World) (c:eX) (kv:Value) (l:List Int) (h:gB w1 C u m lv w c) (ho:ig c) (hl:eA 1 fk (tg C w) kv l) (QL:l.length <=1000000):
  Calls prog 195 #[.pointer (some ⟨C,0,none⟩),kv] w (D2 w1 C u m lv (.tuple #[]) (c.gd l) w):=by
 have HL:=V hl;obtain⟨ak,ck,rfl,-,-,-⟩:=id hl;clear hl;go_enter func195,ntmps195;go_wp2_with fail;refine eR (fun a' w'=>∃(c':eX) (n:Nat),a'=fr (.pointer (some ⟨C,0,none⟩):: .slice ak l.length ck::gs a' 2 2 (.int .i64 ((n:Int) - 1)::gs a' 5 13 []))/\MB w1 C u m lv c l w w' c' n) (fun a' _=>(intOf (a'.tmps.getD 4 undef)+1).toNat) ?_ ?_
 ·exact⟨c,l.length,rfl,ag _,by rw [aU];rfl,h,ho,ep.refl _ _,rfl⟩
 ·clear h ho
  rintro R a' w1 ⟨c',n,Nm,hJ⟩ HR;dsimp only [fr,gs]at Nm;generalize slot a'=f at Nm;subst Nm;obtain⟨hn,hpa,NH,Nt,hk,hq⟩:=hJ;have HQ:=V hq;have HPA:=V hpa;have Nn:=V NH;have Oj:=V Nt;have HK:=V hk;clear hpa NH Nt hq;cases n with
  | zero=>
   have HP:=V (show c.gd l=c' by rw [HPA.out];rfl);clear hk;go_wp2
   go_end0
   rw [HP.out];exact⟨rfl,Nn.out,HK.out,HQ.out⟩
  | succ n=>
   obtain⟨x,hx⟩:∃x,l[n]?=some x:=⟨_,aq (by omega)⟩;have S1:=HL.out.ext (uI hk);obtain⟨_,_,hv,_,_,Nk⟩:=S1;injection hv with e1 e2 e3;subst e1;obtain⟨b,off,rfl,Nu,hc⟩:=Nk n x hx;have c0:=hc 0 _ rfl;rw [aJ,aW]at c0;have f1:decide ((0:Int) <=(n:Int))=true:=ay (by omega);have f2:(n:Int) < (l.length:Int):=by omega
   have HT:=V (show(l.take (n+1)).reverse=x::(l.take n).reverse by rw [aR,hx];simp);clear e2 e3 hc Nk hx hk;go_wp2_with fail;refine(DZ _ C u m lv _ c' x Nn.out Oj.out.2 Oj.out.top).mono ?_;rintro e w2 ⟨rfl,NC,Nw,SN⟩;have HQ2:=V (SN.trans HQ.out);have OB:=V NC;have OX:=V (HK.out.trans Nw (fun _ h=> .inl h));clear NC Nw c0 SN;go_wp2;refine HR.out _ _ ⟨(c'.pop x).2,n,rfl,by omega,?_,OB.out,Oj.out.pop x,OX.out,HQ2.out⟩ ?_
   ·rw [HPA.out,HT.out]
    rfl
   ·simp [intOf]
theorem wP (w1:World) (C:Nat) (u:eT) (m:eI) (lv:Value) (w:World) (c:eX) (op kind:Int) (h:gB w1 C u m lv w c) (hn:c.fc.length <=100000):
  Calls prog 115 #[.pointer (some ⟨C,0,none⟩), .int .i64 op, .int .i64 kind] w (n5 w1 C u m lv (.tuple #[]) (c.begin op kind)):=by
 obtain⟨v,v',hb,hv,hc,hk,hC⟩:=h.drew;obtain⟨eu,fc,bad⟩:=c;simp only at hb hv hc hn;obtain⟨av,cv,rfl,-,-⟩:=hv.slice;obtain⟨ac,cc,rfl,-,-⟩:=hc.slice;have Qn:w.drew.cell? ⟨C,15,none⟩=some (.slice av eu.length cv):=hb.cell 15;have Tm:w.drew.cell? ⟨C,16,none⟩=some (.slice ac fc.length cc):=hb.cell 16;have HB:=V hb;have HV:=V hv;have HC:=V hc;have HK:=V hk;have Oc:=hk.size;have HNE:=V (fun g (hg:eO (.slice av eu.length cv) g)=>ei.ne hv hc (by decide) g hg);clear hb hv hc hk h;go_enter func115,ntmps115;go_wp2_with fail;refine eY (fun w'=>w'.cell? ⟨C,15,none⟩=some (.slice av eu.length cv)/\w'.cell? ⟨C,16,none⟩=some (.slice ac fc.length cc)) 17 (up 0 13 ((13,false)::(14,false)::(15,true)::(16,true)::[])) (by kernel_rfl) (by kernel_rfl) ⟨Qn,Tm⟩ ?_;clear Qn Tm;generalize w.drew=wa at HB HV HC HK Oc⊢;iterate 13 (first | (apply sk rfl rfl;simp only [pt]) | (apply eo rfl rfl rfl;·(rintro w' ⟨t0,t1⟩;go_wp2;exact⟨rfl,rfl,rfl⟩)))
 refine ew rfl rfl ?_;go_wp2_with fail;refine⟨⟨(HB.out.alloc _).cell 15,(HB.out.alloc _).cell 16⟩,?_⟩;refine ew rfl rfl ?_;go_wp2_with (first | (at_builtin;refine fw wa rfl _ _ 184 rfl _ 32 (by kernel_rfl) xQ rfl (by decide) (by decide) w1.heap.size (.slice ac fc.length cc) fc rfl HC.out ⟨op,kind,eu.length,false⟩ _ rfl rfl (Io _) rfl (by omega) Oc ?_));intro v2 w2 ho Nw NC;obtain⟨a2,c2,rfl,-,-⟩:=ho.slice;have HO:=V (show ei 191 4 zc w2 w1.heap.size (.slice a2 (fc.length+1) c2) (fc++[⟨op,kind,eu.length,false⟩])by have:=ho;rwa [ah,aB]at this);have HB:=V (HB.out.keeps Nw (fun h=>by have:=(eM HC.out h).1;omega));have HV:=V (HV.out.keeps Nw (fun i hi h=>HNE.out i hi h));have HK:=V (HK.out.trans Nw (fun i hi=> .inr (eM HC.out hi).1));clear ho Nw NC;go_wp2_with fail;refine⟨⟨HB.out.cell 15,HB.out.cell 16⟩,?_⟩;iterate 2 (first | (apply sk rfl rfl;simp only [pt]) | (apply eo rfl rfl rfl;·(rintro w' ⟨t0,t1⟩;go_wp2;exact⟨rfl,rfl,rfl⟩)))
 refine fJ rfl rfl ?_;have Tm:w2.cell? ⟨C,16,none⟩=some (.slice ac fc.length cc):=HB.out.cell 16;have z16:=HB.out.free 16;go_wp2;refine⟨trivial,?_⟩;refine aA ?_;clear Tm z16;go_wp2
 go_end0
 have Np:=eE w2 C 16 (.slice a2 (fc.length+1) c2);exact⟨rfl,⟨_,_,HB.out.set 16 _,HV.out.keeps Np (fun i hi h=>by have:=(eM HV.out hi).1;omega),HO.out.keeps Np (fun i hi h=>by have:=(eM HO.out hi).1;omega),HK.out.trans Np (fun i hi=> .inl hi),hC⟩⟩
theorem AX (w1:World) (C:Nat) (u:eT) (m:eI) (lv:Value) (w:World) (c:eX) (h:gB w1 C u m lv w c) (Nt:ig c):
  Calls prog 190 #[.pointer (some ⟨C,0,none⟩)] w (n5 w1 C u m lv (.tuple #[]) c.dead):=by
 have hs:=Nt.top;have hn:=Nt.2;obtain⟨v,v',hb,hv,hc,hk,hC⟩:=h.drew.drew;obtain⟨eu,fc,bad⟩:=c;obtain⟨cs,t,rfl⟩:=sn hn;rw [nw]at hs;simp only at hb hv hc hs;obtain⟨av,cv,rfl,Oh,-⟩:=hv.slice;obtain⟨g,cap,rfl,NX,OS,Rp,Pv,PI⟩:=Cx.of hb rfl hc;have hCl:=hb.lt;have HD:Hid (eX.dead ⟨eu,cs++[t],bad⟩=⟨eu.take t.fb,cs++[{t with dead:=true}],bad⟩):=V (by
  unfold eX.dead;rw [nw];simp)
 have hct0:Cx C g cs.length cap t w.drew:=PI;have HB:=V hb;have HV:=V hv;have HC:=V hc;have HK:=V hk;have Ri:=V PI;have Oc:=hk.size;have HNE:=V (fun g' (hg:eO (.slice av eu.length cv) g')=>ei.ne hv hc (by decide) g' hg);have OC:=fun wx=>om av eu.length cv t.fb (by omega) wx;clear hb hv hc hk h PI hn Nt;go_enter func190,ntmps190;go_wp2_with fail;refine eB (Cx C g cs.length cap t) (up 0 12 []) (by kernel_rfl) (by kernel_rfl) hct0 ?_;iterate 12 (first | (apply sk rfl rfl;simp only [pt]) | (apply eo rfl rfl rfl;·(rintro w' ⟨t0,t1,t2,t3,t4⟩;go_wp2;exact⟨rfl,rfl,rfl⟩)))
 refine eW ?_;refine aA ?_;clear hct0;go_wp2_with fail;refine eB (fun w'=>w'.cell? ⟨g,cs.length*4+2,none⟩=some (.int .i64 t.fb)) (up 0 5 (up 6 4 ((5,false)::up 10 3 ((13,false)::(14,true)::(15,true)::(16,false)::[])))) (by kernel_rfl) (by kernel_rfl) Ri.out.2.2.2.1 ?_;generalize w.drew.drew=wa at HB HV HC HK Ri Oc hCl Pv⊢;iterate 9 (first | (apply sk rfl rfl;simp only [pt]) | (apply eo rfl rfl rfl;·(rintro w' t0;go_wp2;exact⟨rfl,rfl,rfl⟩)))
 refine ew rfl rfl ?_;have Qn:wa.cell? ⟨C,15,none⟩=some (.slice av eu.length cv):=HB.out.cell 15;go_wp2_with fail;refine⟨Ri.out.2.2.2.1,?_⟩;iterate 3 (first | (apply sk rfl rfl;simp only [pt]) | (apply eo rfl rfl rfl;·(rintro w' t0;go_wp2;exact⟨rfl,rfl,rfl⟩)))
 refine ew rfl rfl ?_;have z15:=HB.out.free 15;go_wp2_with fail;have Np:=eE wa C 15 (.slice av t.fb cv);have hgC:g≠C:=by omega
 have HCT2:=V (Ri.out.2.2.2.1);have HCD:=V (Ri.out.2.2.2.2);have k2:(wa.setCell ⟨C,15,none⟩ (.slice av t.fb cv)).cell? ⟨g,cs.length*4+2,none⟩=some (.int .i64 t.fb):=(Np.cell Pv hgC).trans HCT2.out;have k3:(wa.setCell ⟨C,15,none⟩ (.slice av t.fb cv)).cell? ⟨g,cs.length*4+3,none⟩=some (.bool t.dead):=(Np.cell Pv hgC).trans HCD.out;have hT:=ei.take fI HV.out t.fb hs;have HT:=V (hT.keeps Np (fun i hi h=>by have:=(eM hT hi).1;omega));have HC2:=V (HC.out.keeps Np (fun i hi h=>by have:=(eM HC.out hi).1;omega));have NQ:=V (HB.out.set 15 (.slice av t.fb cv));have OX:=V (HK.out.trans Np (fun _ h=> .inl h));refine⟨k2,?_⟩;iterate 2 (first | (apply sk rfl rfl;simp only [pt]) | (apply eo rfl rfl rfl;·(rintro w' t0;go_wp2;exact⟨rfl,rfl,rfl⟩)))
 refine ew rfl rfl ?_;generalize wa.setCell ⟨C,15,none⟩ (.slice av t.fb cv)=wc at HT HC2 NQ OX k2 k3⊢;have zg:=ei.free HC2.out (cs.length*4+3);clear Qn z15 Np hT;go_wp2_with fail;have Np:=eE wc g (cs.length*4+3) (.bool true);have Ox:C≠g:=fun h=>hgC h.symm;refine⟨(by
  show(wc.setCell ⟨g,cs.length*4+3,none⟩ (.bool true)).cell? ⟨g,cs.length*4+2,none⟩=_;rw [cA _ _ _ _ (by simp)];exact k2),?_⟩
 refine eW ?_;refine aA ?_;go_wp2
 go_end0
 rw [HD.out];have h1:=ei.set jW HC2.out (i:=cs.length) (j:=3) (x:=t) (y:={t with dead:=true}) (u:= .bool true) (by simp) (by decide) rfl;have h2:(cs++[t]).set cs.length {t with dead:=true}=cs++[{t with dead:=true}]:=by simp
 rw [h2]at h1;exact⟨rfl,⟨_,_,NQ.out.keeps Np Ox,HT.out.keeps Np (fun i hi h=>HNE.out i ((ei.same i).1 hi) (by simp [eO,Value.ownBlock,h])),h1,OX.out.trans Np (fun i hi=> .inr (by omega)),hC⟩⟩
def KX (C g n cap i:Nat) (t:nt) (w:World):Prop:=
 w.cell? ⟨C,16,none⟩=some (.slice (some ⟨g,0,none⟩) n cap)/\w.cell? ⟨g,i*4,none⟩=some (.int .i64 t.op)/\w.cell? ⟨g,i*4+1,none⟩=some (.int .i64 t.kind)/\w.cell? ⟨g,i*4+2,none⟩=some (.int .i64 t.fb)/\w.cell? ⟨g,i*4+3,none⟩=some (.bool t.dead)
theorem KX.keeps {C g n cap i:Nat} {t:nt} {w w':World} {S:Nat ->Prop} (h:KX C g n cap i t w) (hk:ep S w w') (h1:C < w.heap.size/\¬ S C) (h2:g < w.heap.size/\¬ S g):KX C g n cap i t w':=by
 obtain⟨a,b,c,d,e⟩:=h;exact⟨(hk.cell h1.1 h1.2).trans a,(hk.cell h2.1 h2.2).trans b,(hk.cell h2.1 h2.2).trans c,(hk.cell h2.1 h2.2).trans d,(hk.cell h2.1 h2.2).trans e⟩
theorem KX.of {w:World} {B C:Nat} {v':Value} {l:List nt} {i:Nat} {t:nt} {xs:Array Value} {T:TypeId} (hb:eS w C xs T) (hx:xs[16]?=some v') (h:ei 191 4 zc w B v' l) (hi:l[i]?=some t):
  ∃g cap,v'= .slice (some ⟨g,0,none⟩) l.length cap/\l.length <=cap/\cap <=9223372036854775807/\B <=g/\g < w.heap.size/\KX C g l.length cap i t w:=by
 obtain⟨g,cap,cur,rfl,Rp,Pv,hg3,NX,hm⟩:=h.open (fun e=>by rw [e]at hi;simp at hi);refine⟨g,cap,rfl,NX,by simpa [maxLen] using hm,Rp,Pv,?_,?_,?_,?_,?_⟩
 ·rw [hb.cell 16,hx]
 ·exact ei.cell jW h (i:=i) (j:=0) (x:=t) (u:= .int .i64 t.op) hi rfl
 ·exact ei.cell jW h (i:=i) (j:=1) (x:=t) (u:= .int .i64 t.kind) hi rfl
 ·exact ei.cell jW h (i:=i) (j:=2) (x:=t) (u:= .int .i64 t.fb) hi rfl
 ·exact ei.cell jW h (i:=i) (j:=3) (x:=t) (u:= .bool t.dead) hi rfl
def La (w1:World) (C:Nat) (u:eT) (m:eI) (lv:Value) (l:List Int) (c:eX) (w:World) (e:Ending) (w':World):Prop:=
 ∃v,e= .returned v/\eA 1 fk (tg C w') v l/\gB w1 C u m lv w' c/\ep (fun i=>i=C) w w'
theorem Dv {c:eX} {k:Nat} {t:nt} (hk:k < c.fc.length) (ht:c.fc[c.fc.length - 1 - k]?=some t):c.label (k:Int)=(if t.op=3 then []else gS t.kind,c):=by
 unfold eX.label eX.zw;rw [az (by omega),cG,ht];rfl
theorem Ew (w1:World) (C:Nat) (u:eT) (m:eI) (lv:Value) (w:World) (c:eX) (k:Nat) (h:gB w1 C u m lv w c):
  Calls prog 196 #[.pointer (some ⟨C,0,none⟩), .int .i64 k] w (La w1 C u m lv (c.label k).1 (c.label k).2 w):=by
 have H:=V h;by_cases q:k < c.fc.length
 ·obtain⟨t,ht⟩:∃t,c.fc[c.fc.length - 1 - k]?=some t:=⟨_,aq (by omega)⟩
  have HLB:=V (Dv q ht);obtain⟨v,v',hb,hv,hc,hk,hC⟩:=h.drew;have hCl:=hb.lt;obtain⟨g,cap,rfl,NX,OS,Rp,Pv,PI⟩:=KX.of hb rfl hc ht;have Oc:=hk.size;obtain⟨N,hN⟩:∃N,c.fc.length=N:=⟨_,rfl⟩;rw [hN]at q NX PI;obtain⟨i,hi⟩:∃i,N - 1 - k=i:=⟨_,rfl⟩;rw [hi]at PI;have hidx:(N:Int) - 1 - (k:Int)=(i:Int):=by omega
  have Qm:i < N:=by omega
  have f1:decide ((N:Int) <=(k:Int))=false:=aw (by omega);have f2:decide (N <=k)=false:=aw (by omega);have Tm:w.cell? ⟨C,16,none⟩=some (.slice (some ⟨g,0,none⟩) N cap):=PI.1;have Ri:=V PI;clear hb hc hk hv h ht hN hi PI q;go_enter func196,ntmps196;go_wp2_with fail;refine eB (KX C g N cap i t) (up 0 14 ((14,false)::(15,false)::[])) (by kernel_rfl) (by kernel_rfl) Ri.out ?_;clear Tm;iterate 14 (first | (apply sk rfl rfl;simp only [pt]) | (apply eo rfl rfl rfl;·(rintro w' ⟨t0,t1,t2,t3,t4⟩;go_wp2;exact⟨rfl,rfl,rfl⟩)))
  refine ew rfl rfl ?_;go_wp2_with fail;refine⟨Ri.out.keeps ((ep.refl (fun _=>False) w.drew).alloc _) ⟨hCl,fun h=>h⟩ ⟨Pv,fun h=>h⟩,?_⟩;refine ew rfl rfl ?_;go_wp2_with fail;have NQ:=V (rD w t);have HX:=V (vR w t);unfold F7 at NQ HX;have HS:=V (H.out.below NQ.out);have HK:=V (ep.et (S:=fun i=>i=C) NQ.out);refine⟨Ri.out.keeps (ep.et (S:=fun _=>False) (show Below w.drew.heap.size w.drew _ from⟨NQ.out.os,NQ.out.tape,NQ.out.output,NQ.out.size,NQ.out.block⟩)) ⟨hCl,fun h=>h⟩ ⟨Pv,fun h=>h⟩,?_⟩;refine eW ?_;refine aA ?_;generalize(w.alloc (.cells #[.int .i64 t.op, .int .i64 t.kind, .int .i64 t.fb, .bool t.dead] 191)).drew=wb at HX HS HK⊢;clear NQ;obtain⟨⟨x0,x1,x2,x3⟩,-,-,-,-⟩:=HX.out.four;clear x2 x3;by_cases q3:t.op=3
  ·have g1:=eV q3
   have HLB:=V (show c.label k=([],c)by rw [HLB.out,aE q3]);clear q3;go_wp2;go_ret;rw [HLB.out];exact⟨_,rfl,eA.nil _,HS.out,HK.out⟩
  ·have g1:=eh q3
   have HLB:=V (show c.label k=(gS t.kind,c)by rw [HLB.out,az q3]);clear q3;go_wp2_with fail;refine(nD t.kind wb C HS.out.lt.1).mono ?_;rintro e w2 ⟨v,rfl,hl,hb⟩;have HL:=V hl;have HS:=V (HS.out.below hb);have HK:=V (HK.out.trans (ep.et (S:=fun _=>False) hb) (fun _ h=>h.elim));clear hl hb x0 x1;go_wp2;go_ret;rw [HLB.out];exact⟨_,rfl,HL.out,HS.out,HK.out⟩
 ·obtain⟨v,v',hb,hv,hc,hk,hC⟩:=h
  obtain⟨ac,cc,rfl,-,-⟩:=hc.slice;have HLB:Hid (c.label k=([],{c with bad:=true})):=V (by unfold eX.label;rw [if_pos (by omega)]);obtain⟨N,hN⟩:∃N,c.fc.length=N:=⟨_,rfl⟩;rw [hN]at q hc hb;have f1:decide ((N:Int) <=(k:Int))=true:=ay (by omega);have f2:decide (N <=k)=true:=ay (by omega);have Tm:w.cell? ⟨C,16,none⟩=some (.slice ac N cc):=hb.cell 16;have c17:w.cell? ⟨C,17,none⟩=some (.bool c.bad):=hb.cell 17;have z17:=hb.free 17;have HB:=V hb;have HV:=V hv;have HC:=V hc;have HK:=V hk;clear hb hv hc hk q hN;go_enter func196,ntmps196;go_wp2;go_ret;have Np:=eE w C 17 (.bool true);rw [HLB.out];exact⟨_,rfl,eA.nil _,⟨v,_,HB.out.set 17 _,HV.out.keeps Np (fun i hi h=>by have:=(eM HV.out hi).1;omega),HC.out.keeps Np (fun i hi h=>by have:=(eM HC.out hi).1;omega),HK.out.trans Np (fun _ h=> .inl h),hC⟩,Np⟩
theorem eS.KQ {w:World} {X:Nat} {x0 x1 x2:Int} {b:Bool} {t:TypeId} (h:eS w X #[.int .i64 x0, .int .i64 x1, .int .i64 x2, .bool b] t):
  (loadVar 191 ⟨X,0,none⟩).run prog w= .ok (.agg #[.int .i64 x0, .int .i64 x1, .int .i64 x2, .bool b]) w:=by
 have hs:(prog.underlying 191).map (fun d=>match d with | .struct _ | .array _ _=>true | _=>false)=some true:=by kernel_rfl
 obtain⟨d,h1,h2⟩:=bC.1 hs;exact bW w X t 191 _ _ d h h1 (by cases d <;>first | rfl | (exfalso;simp at h2)) (by kernel_rfl)
def Ij (t:nt):Value:= .agg #[.int .i64 t.op, .int .i64 t.kind, .int .i64 t.fb, .bool t.dead]
theorem qS (a:Option Addr) (len cap k:Nat) (h:k <=cap) (wx:World):
  (Instr.slice 184 (.slice a len cap) none (some (.int .i64 k)) none).run prog wx= .ok (.slice a k cap) wx:=by
 have hu:prog.underlying 184=some (.slice 191):=by kernel_rfl
 obtain⟨i0,hi,Po,Oi,O1⟩:=bS xQ;simp [Instr.slice,aZ hu,Instr.sliceBounds,Instr.sliceBound,sizeOf,typeInfo,hi,asIntOf,h];cases a <;>simp [Addr.add]
theorem ei.gF {α:Type} {t t':TypeId} {k:Nat} {enc:α ->List Value} {w:World} {B X:Nat} {v:Value} {l:List α} {xs:Array Value} (h:ei t k enc w B v l) (hb:eS w X xs t') (Ox:t≠t'):∀i,eO v i ->¬ i=X:=by
 intro i hi he;subst he;obtain⟨_,⟨hv,_⟩ | ⟨g,cap,cur,hv,_,hg,_⟩⟩:=h
 ·rw [hv]at hi;simp [eO,Value.ownBlock]at hi
 ·rw [hv]at hi
  simp [eO,Value.ownBlock]at hi;subst hi;have:=hb.symm.trans hg;injection this with this;injection this with e1 e2;exact Ox e2.symm
theorem FD (w1:World) (C:Nat) (u:eT) (m:eI) (lv:Value) (w:World) (c:eX) (h:gB w1 C u m lv w c) (Nt:ig c):
  Calls prog 118 #[.pointer (some ⟨C,0,none⟩)] w (fun e w'=>e= .returned (Ij c.top)/\gB w1 C u m lv w' c.shut.2/\ep (fun i=>i=C) w w'):=by
 have Oj:=V Nt;have Nu:=h.lt;obtain⟨eu,fc,bad⟩:=c;obtain⟨cs,t,rfl⟩:=sn Nt.2;rw [nw];have HSH:Hid ((eX.shut ⟨eu,cs++[t],bad⟩).2={(eX.gd ⟨eu,cs++[t],bad⟩ (gS t.kind)).need ((eX.gd ⟨eu,cs++[t],bad⟩ (gS t.kind)).eu.length==t.fb)with fc:=cs}):=V (by
  unfold eX.shut eX.DL;rw [nw];simp only [eX.nB,eX.iI,List.dropLast_concat])
 have HK0:ep (fun i=>i=C) w (w.alloc (.cells #[.int .i64 0, .int .i64 0, .int .i64 0, .bool false] 191)):=(ep.refl _ _).alloc _;have Rw:=eS.new w #[.int .i64 0, .int .i64 0, .int .i64 0, .bool false] 191;obtain⟨v,v',hb,hv,hc,hk,hC⟩:=h;obtain⟨g,cap,rfl,NX,OS,Rp,Pv,PI⟩:=Cx.of hb rfl hc;have C16:=V PI.1;have H:=V ((show gB w1 C u m lv w ⟨eu,cs++[t],bad⟩from⟨v,_,hb,hv,hc,hk,hC⟩).alloc (.cells #[.int .i64 0, .int .i64 0, .int .i64 0, .bool false] 191));have hCl:=hb.lt;have hsw:=hk.size;have Ri:=V (Cx.keeps (S:=fun _=>False) PI ((ep.refl (fun _=>False) w).alloc (.cells #[.int .i64 0, .int .i64 0, .int .i64 0, .bool false] 191)) ⟨hCl,fun h=>h⟩ ⟨Pv,fun h=>h⟩);have HQ:Hid ((w.alloc (.cells #[.int .i64 0, .int .i64 0, .int .i64 0, .bool false] 191)).cell? ⟨C,16,none⟩=w.cell? ⟨C,16,none⟩):=V (((an w.heap.size w).alloc (ag _) _).cell hCl);have hsA:(w.alloc (.cells #[.int .i64 0, .int .i64 0, .int .i64 0, .bool false] 191)).heap.size=w.heap.size+1:=aC _ _;have hlA:=H.out.lt.1;clear hb hv hc hk PI Nt Nu;go_enter func118,ntmps118;go_wp2_with fail;obtain⟨wA,RO⟩:∃wA,wA=w.alloc (.cells #[.int .i64 0, .int .i64 0, .int .i64 0, .bool false] 191):=⟨_,rfl⟩;rw [<- RO]at HK0 Rw H Ri HQ hsA hlA⊢;clear RO;have HSA:=V hsA;have hgA:g < wA.heap.size:=by omega
 have hYA:wA.heap.size=w.heap.size+1:=hsA;refine eB (Cx C g cs.length cap t) (up 0 12 ((12,false)::(13,false)::[])) (by kernel_rfl) (by kernel_rfl) Ri.out ?_;clear hsA hYA;iterate 12 (first | (apply sk rfl rfl;simp only [pt]) | (apply eo rfl rfl rfl;·(rintro w' ⟨t0,t1,t2,t3,t4⟩;go_wp2;exact⟨rfl,rfl,rfl⟩)))
 refine ew rfl rfl ?_;go_wp2_with fail;refine⟨Ri.out.keeps ((ep.refl (fun _=>False) wA).drew.alloc _) ⟨hlA,fun h=>h⟩ ⟨hgA,fun h=>h⟩,?_⟩;refine ew rfl rfl ?_;go_wp2_with fail;have NQ:=V (rD wA t);have HX:=V (vR wA t);unfold F7 at NQ HX;rw [HSA.out];have HX:=V (show eS _ (w.heap.size+1) _ _ by have:=HX.out;rw [HSA.out]at this;exact this);have HS:=V (H.out.below NQ.out);have HR:=V (Rw.below NQ.out Rw.lt);have HK:=V (HK0.trans (ep.et (S:=fun _=>False) NQ.out) (fun _ h=>h.elim));have HQ:=V ((NQ.out.cell (p:=⟨C,16,none⟩) hlA).trans HQ.out);refine⟨Ri.out.keeps (ep.et (S:=fun _=>False) NQ.out) ⟨hlA,fun h=>h⟩ ⟨hgA,fun h=>h⟩,?_⟩;refine eW ?_;refine aA ?_;generalize(wA.alloc (.cells #[.int .i64 t.op, .int .i64 t.kind, .int .i64 t.fb, .bool t.dead] 191)).drew=wb at HX HS HR HK HQ⊢;clear NQ Ri H HK0 Rw HSA hlA hgA;have HXL:=V (show w.heap.size+1 < wb.heap.size from HX.out.lt);have x1:=HX.out.cell 1;simp only [aM,aK,aT]at x1;go_wp2_with fail;refine(nD t.kind wb C HS.out.lt.1).mono ?_;rintro e w2 ⟨kv,rfl,hl,hb⟩;have HL:=V hl;have HS:=V (HS.out.below hb);have HX:=V (HX.out.below hb HX.out.lt);have HR:=V (HR.out.below hb HR.out.lt);have HK:=V (HK.out.trans (ep.et (S:=fun _=>False) hb) (fun _ h=>h.elim));have HQ:=V ((hb.cell (p:=⟨C,16,none⟩) (bp hCl (aQ (ee _) (Nat.le_of_lt HXL.out)))).trans HQ.out);clear hl hb x1;go_wp2_with fail;refine(oZ w1 C u m lv w2 _ kv (gS t.kind) HS.out Oj.out HL.out (by unfold gS;split <;>simp)).mono ?_;rintro e w3 ⟨rfl,hs,hk,hq⟩;have HS:=V hs;have HX:=V (HX.out.keeps hk (by omega));have HR:=V (HR.out.keeps hk (by omega));have HK:=V (HK.out.trans hk (fun _ h=> .inl h));have HQ:=V (hq.trans HQ.out);clear hs hk hq;obtain⟨L,hL⟩:∃L,(eX.gd ⟨eu,cs++[t],bad⟩ (gS t.kind)).eu.length=L:=⟨_,rfl⟩;obtain⟨v,v',hb,hv,-,-,-⟩:=HS.out;obtain⟨av,cv,rfl,-,-⟩:=hv.slice;rw [hL]at hb hv HSH;have Qn:w3.cell? ⟨C,15,none⟩=some (.slice av L cv):=hb.cell 15;have x2:w3.cell? ⟨w.heap.size+1,2,none⟩=some (.int .i64 t.fb):=HX.out.cell 2;clear hb hv hL;by_cases q:L=t.fb
 ·have f1:((L:Int)==(t.fb:Int))=true:=eV (by omega)
  have f2:(L==t.fb)=true:=by simp [q]
  have HND:=V f2;clear q;go_wp2_with fail;refine eY (fun w'=>w'.cell? ⟨C,15,none⟩=some (.slice av L cv)/\w'.cell? ⟨w.heap.size+1,2,none⟩=some (.int .i64 t.fb)) 9 (up 0 9 []) (by kernel_rfl) (by kernel_rfl) ⟨Qn,x2⟩ ?_;clear Qn x2;iterate 9 (first | (apply sk rfl rfl;simp only [pt]) | (apply eo rfl rfl rfl;·(rintro w' ⟨t0,t1⟩;go_wp2;exact⟨rfl,rfl,rfl⟩)))
  refine fJ rfl rfl ?_;have HS:=V HS.out.drew;have HX:=V HX.out.drew;have HR:=V HR.out.drew;have HK:=V HK.out.drew;have HQ:=V (show w3.drew.cell? ⟨C,16,none⟩=w.cell? ⟨C,16,none⟩from HQ.out);generalize w3.drew=w4 at HS HX HR HK HQ⊢;go_wp2_with fail;refine(jX w1 C u m lv w4 _ true HS.out).mono ?_;rintro e w5 ⟨rfl,hs,hk,hq⟩;have HS:=V hs;have HX:=V (HX.out.keeps hk (by omega));have HR:=V (HR.out.keeps hk (by omega));have HK:=V (HK.out.trans hk (fun _ h=> .inl h));have HQ:=V (hq.trans HQ.out);clear hs hk hq;go_wp2;refine⟨trivial,?_⟩;refine aA ?_;have HX:=V HX.out.drew;have HR:=V HR.out.drew;have HK:=V HK.out.drew;obtain⟨v,v',hb,hv,hc,hk,-⟩:=HS.out.drew;have NA:ei 191 4 zc w5.drew w1.heap.size v' (cs++[t]):=by
   have OL:=hc;rw [show((eX.gd ⟨eu,cs++[t],bad⟩ (gS t.kind)).need true).fc=cs++[t]from by rw [eX.nB,eX.iI]]at OL;exact OL
  obtain⟨g2,Nr,rfl,hcap2,hcm2,hg3,hg4,PI⟩:=Cx.of hb rfl NA;have Tm:w5.drew.cell? ⟨C,16,none⟩=some (.slice (some ⟨g2,0,none⟩) (cs.length+1) Nr):=PI.1;have hgg:g2 < w.heap.size:=by
   have h1:w5.cell? ⟨C,16,none⟩=some (.slice (some ⟨g2,0,none⟩) (cs.length+1) Nr):=PI.1;have h2:=HQ.out;rw [h1,C16.out]at h2;injection h2 with h2;injection h2 with h2;injection h2 with h2;injection h2 with h2;omega
  have z16:=hb.free 16;have OC:=qS (some ⟨g2,0,none⟩) (cs.length+1) Nr cs.length (by omega);have NB:=V hb;have QH:=V hv;have HCC:=V NA;have RZ:=V hk;clear hb hv hc NA hk PI;go_wp2_with fail;refine eY (fun w'=>w'.cell? ⟨C,16,none⟩=some (.slice (some ⟨g2,0,none⟩) (cs.length+1) Nr)) 14 (up 0 14 []) (by kernel_rfl) (by kernel_rfl) Tm ?_;iterate 14 (first | (apply sk rfl rfl;simp only [pt]) | (apply eo rfl rfl rfl;·(rintro w' t0;go_wp2;exact⟨rfl,rfl,rfl⟩)))
  refine fJ rfl rfl ?_;generalize w5.drew=w7 at HX HR HK NB QH HCC RZ Tm z16 hg4⊢;go_wp2_with fail;have Np:=eE w7 C 16 (.slice (some ⟨g2,0,none⟩) cs.length Nr);have hT:=ei.take jW HCC.out cs.length (by simp);rw [dt rfl]at hT;have HT:=V (hT.keeps Np (fun i hi h=>by have:=(eM hT hi).1;omega));have QH:=V (QH.out.keeps Np (fun i hi h=>by have:=(eM QH.out hi).1;omega));have NB:=V (show eS _ C (uH u m lv v (.slice (some ⟨g2,0,none⟩) cs.length Nr) ((eX.gd ⟨eu,cs++[t],bad⟩ (gS t.kind)).need true).bad) 186 from NB.out.set 16 (.slice (some ⟨g2,0,none⟩) cs.length Nr));have RZ:=V (RZ.out.trans Np (fun _ h=> .inl h));have HX:=V (HX.out.keeps Np (by omega));have HR:=V (HR.out.keeps Np (by omega));have HK:=V (HK.out.trans Np (fun _ h=> .inl h));refine⟨trivial,?_⟩;refine aA ?_;clear Np hT Tm z16 OC;generalize w7.setCell ⟨C,16,none⟩ (.slice (some ⟨g2,0,none⟩) cs.length Nr)=w8 at HX HR HK HT QH NB RZ⊢;obtain⟨⟨x0,x1,x2,x3⟩,-,-,-,-⟩:=HX.out.four;obtain⟨⟨r0,r1,r2,r3⟩,zr0,zr1,zr2,zr3⟩:=HR.out.four;go_wp2_with fail;have hx:=HR.out.vF (.int .i64 t.op) (.int .i64 t.kind) (.int .i64 t.fb) (.bool t.dead);have Np:=nj w8 w.heap.size (.int .i64 t.op) (.int .i64 t.kind) (.int .i64 t.fb) (.bool t.dead);refine aF (eH rfl _ _ rfl hx.KQ) rfl ?_;refine⟨rfl,?_,HK.out.trans Np (fun i hi=> .inr (by omega))⟩;rw [HSH.out,HND.out];exact⟨v,_,NB.out.keeps Np (by omega),QH.out.keeps Np (QH.out.gF HR.out (by decide)),HT.out.keeps Np (fun i hi h=>absurd (show g2=i by simpa [eO,Value.ownBlock] using hi) (by omega)),RZ.out.trans Np (fun i hi=> .inr (by omega)),hC⟩
 ·have f1:((L:Int)==(t.fb:Int))=false:=eh (by omega)
  have f2:(L==t.fb)=false:=by simp [q]
  have HND:=V f2;clear q;go_wp2_with fail;refine eY (fun w'=>w'.cell? ⟨C,15,none⟩=some (.slice av L cv)/\w'.cell? ⟨w.heap.size+1,2,none⟩=some (.int .i64 t.fb)) 9 (up 0 9 []) (by kernel_rfl) (by kernel_rfl) ⟨Qn,x2⟩ ?_;clear Qn x2;iterate 9 (first | (apply sk rfl rfl;simp only [pt]) | (apply eo rfl rfl rfl;·(rintro w' ⟨t0,t1⟩;go_wp2;exact⟨rfl,rfl,rfl⟩)))
  refine fJ rfl rfl ?_;have HS:=V HS.out.drew;have HX:=V HX.out.drew;have HR:=V HR.out.drew;have HK:=V HK.out.drew;have HQ:=V (show w3.drew.cell? ⟨C,16,none⟩=w.cell? ⟨C,16,none⟩from HQ.out);generalize w3.drew=w4 at HS HX HR HK HQ⊢;go_wp2_with fail;refine(jX w1 C u m lv w4 _ false HS.out).mono ?_;rintro e w5 ⟨rfl,hs,hk,hq⟩;have HS:=V hs;have HX:=V (HX.out.keeps hk (by omega));have HR:=V (HR.out.keeps hk (by omega));have HK:=V (HK.out.trans hk (fun _ h=> .inl h));have HQ:=V (hq.trans HQ.out);clear hs hk hq;go_wp2;refine⟨trivial,?_⟩;refine aA ?_;have HX:=V HX.out.drew;have HR:=V HR.out.drew;have HK:=V HK.out.drew;obtain⟨v,v',hb,hv,hc,hk,-⟩:=HS.out.drew;have NA:ei 191 4 zc w5.drew w1.heap.size v' (cs++[t]):=by
   have OL:=hc;rw [show((eX.gd ⟨eu,cs++[t],bad⟩ (gS t.kind)).need false).fc=cs++[t]from by rw [eX.nB,eX.iI]]at OL;exact OL
  obtain⟨g2,Nr,rfl,hcap2,hcm2,hg3,hg4,PI⟩:=Cx.of hb rfl NA;have Tm:w5.drew.cell? ⟨C,16,none⟩=some (.slice (some ⟨g2,0,none⟩) (cs.length+1) Nr):=PI.1;have hgg:g2 < w.heap.size:=by
   have h1:w5.cell? ⟨C,16,none⟩=some (.slice (some ⟨g2,0,none⟩) (cs.length+1) Nr):=PI.1;have h2:=HQ.out;rw [h1,C16.out]at h2;injection h2 with h2;injection h2 with h2;injection h2 with h2;injection h2 with h2;omega
  have z16:=hb.free 16;have OC:=qS (some ⟨g2,0,none⟩) (cs.length+1) Nr cs.length (by omega);have NB:=V hb;have QH:=V hv;have HCC:=V NA;have RZ:=V hk;clear hb hv hc NA hk PI;go_wp2_with fail;refine eY (fun w'=>w'.cell? ⟨C,16,none⟩=some (.slice (some ⟨g2,0,none⟩) (cs.length+1) Nr)) 14 (up 0 14 []) (by kernel_rfl) (by kernel_rfl) Tm ?_;iterate 14 (first | (apply sk rfl rfl;simp only [pt]) | (apply eo rfl rfl rfl;·(rintro w' t0;go_wp2;exact⟨rfl,rfl,rfl⟩)))
  refine fJ rfl rfl ?_;generalize w5.drew=w7 at HX HR HK NB QH HCC RZ Tm z16 hg4⊢;go_wp2_with fail;have Np:=eE w7 C 16 (.slice (some ⟨g2,0,none⟩) cs.length Nr);have hT:=ei.take jW HCC.out cs.length (by simp);rw [dt rfl]at hT;have HT:=V (hT.keeps Np (fun i hi h=>by have:=(eM hT hi).1;omega));have QH:=V (QH.out.keeps Np (fun i hi h=>by have:=(eM QH.out hi).1;omega));have NB:=V (show eS _ C (uH u m lv v (.slice (some ⟨g2,0,none⟩) cs.length Nr) ((eX.gd ⟨eu,cs++[t],bad⟩ (gS t.kind)).need false).bad) 186 from NB.out.set 16 (.slice (some ⟨g2,0,none⟩) cs.length Nr));have RZ:=V (RZ.out.trans Np (fun _ h=> .inl h));have HX:=V (HX.out.keeps Np (by omega));have HR:=V (HR.out.keeps Np (by omega));have HK:=V (HK.out.trans Np (fun _ h=> .inl h));refine⟨trivial,?_⟩;refine aA ?_;clear Np hT Tm z16 OC;generalize w7.setCell ⟨C,16,none⟩ (.slice (some ⟨g2,0,none⟩) cs.length Nr)=w8 at HX HR HK HT QH NB RZ⊢;obtain⟨⟨x0,x1,x2,x3⟩,-,-,-,-⟩:=HX.out.four;obtain⟨⟨r0,r1,r2,r3⟩,zr0,zr1,zr2,zr3⟩:=HR.out.four;go_wp2_with fail;have hx:=HR.out.vF (.int .i64 t.op) (.int .i64 t.kind) (.int .i64 t.fb) (.bool t.dead);have Np:=nj w8 w.heap.size (.int .i64 t.op) (.int .i64 t.kind) (.int .i64 t.fb) (.bool t.dead);refine aF (eH rfl _ _ rfl hx.KQ) rfl ?_;refine⟨rfl,?_,HK.out.trans Np (fun i hi=> .inr (by omega))⟩;rw [HSH.out,HND.out];exact⟨v,_,NB.out.keeps Np (by omega),QH.out.keeps Np (QH.out.gF HR.out (by decide)),HT.out.keeps Np (fun i hi h=>absurd (show g2=i by simpa [eO,Value.ownBlock] using hi) (by omega)),RZ.out.trans Np (fun i hi=> .inr (by omega)),hC⟩
def KF (w1:World) (C:Nat) (u:eT) (m:eI) (lv:Value) (c:eX) (w:World) (e:Ending) (w':World):Prop:=e= .returned (Ij c.top)/\gB w1 C u m lv w' c.shut.2/\ep (fun i=>i=C) w w'
theorem vI (w1:World) (C:Nat) (u:eT) (m:eI) (lv:Value) (w:World) (c:eX) (h:gB w1 C u m lv w c) (Nt:ig c):
  Calls prog 118 #[.pointer (some ⟨C,0,none⟩)] w (KF w1 C u m lv c w):=FD w1 C u m lv w c h Nt
def qi (w1:World) (C:Nat) (u:eT) (m:eI) (lv:Value) (ls:List Int):Prop:=eG (tg C w1) u m/\eA 1 fk (tg C w1) lv ls
theorem gB.ext {w1 w:World} {C:Nat} {u:eT} {m:eI} {lv:Value} {c:eX} (h:gB w1 C u m lv w c):Ext (tg C w1) (tg C w):=qL h.old
theorem gB.ext' {w1 w:World} {C:Nat} {u:eT} {m:eI} {lv:Value} {c:eX} (h:gB w1 C u m lv w c):Ext (tg C w1) w:=uI h.old
theorem gB.cell {w1 w:World} {C:Nat} {u:eT} {m:eI} {lv:Value} {c:eX} (h:gB w1 C u m lv w c):w.cell? ⟨C,0,none⟩=some u.types/\w.cell? ⟨C,1,none⟩=some u.imports/\w.cell? ⟨C,2,none⟩=some u.funcs/\w.cell? ⟨C,3,none⟩=some (.bool m.table.has)/\w.cell? ⟨C,6,none⟩=some (.bool m.mem.has)/\w.cell? ⟨C,9,none⟩=some u.globals/\w.cell? ⟨C,14,none⟩=some lv/\w.cell? ⟨C,17,none⟩=some (.bool c.bad)/\w.frozen? ⟨C,17,none⟩=false:=by
 obtain⟨v,v',hb,-,-,-,-⟩:=h;exact⟨hb.cell 0,hb.cell 1,hb.cell 2,hb.cell 3,hb.cell 6,hb.cell 9,hb.cell 14,hb.cell 17,hb.free 17⟩
theorem gB.fail {w1 w:World} {C:Nat} {u:eT} {m:eI} {lv:Value} {c:eX} (h:gB w1 C u m lv w c):gB w1 C u m lv (w.setCell ⟨C,17,none⟩ (.bool true)) {c with bad:=true}:=by
 obtain⟨v,v',hb,hv,hc,hk,hC⟩:=h;have Np:=eE w C 17 (.bool true);exact⟨v,v',hb.set 17 _,hv.keeps Np (fun i hi h=>by have:=(eM hv hi).1;omega),hc.keeps Np (fun i hi h=>by have:=(eM hc hi).1;omega),hk.trans Np (fun _ h=> .inl h),hC⟩
def KR (w1:World) (C:Nat) (t:gC × Bool) (w:World) (e:Ending) (w':World):Prop:=
 ∃v1 v2,e= .returned (.tuple #[.agg #[v1,v2], .bool t.2])/\eA 1 fk (tg C w1) v1 t.1.params/\eA 1 fk (tg C w1) v2 t.1.results/\Below w.heap.size w w'
theorem oW (w1:World) (C:Nat) (u:eT) (m:eI) (lv:Value) (ls:List Int) (w:World) (c:eX) (t:Int) (h:gB w1 C u m lv w c) (hr:qi w1 C u m lv ls):
  Calls prog 114 #[.pointer (some ⟨C,0,none⟩), .int .i64 t] w (KR w1 C (typeOf m t) w):=by
 have HX:=V (eS.new w #[.slice none 0 0, .slice none 0 0] 69);have HB:=V ((an w.heap.size w).alloc (ag _) (.cells #[.slice none 0 0, .slice none 0 0] 69));have Nu:=h.lt;have H:=V (h.alloc (.cells #[.slice none 0 0, .slice none 0 0] 69));obtain⟨a0,c0,a1,c1,a2,c2,a3,c3,a4,c4,a5,c5,a6,c6,a7,c7,rfl⟩:=eG.open hr.1;have g0:=H.out.cell.1;obtain⟨x0,x1,z0,z1⟩:=HX.out.two;clear h;by_cases q1:t < 0
 ·have f1:decide (t < 0)=true:=ay q1
  have HT:Hid (typeOf m t=(⟨[],[]⟩,false)):=V (by unfold typeOf;rw [if_pos (.inl q1)]);clear q1;go_enter func114,ntmps114;go_wp2_with fail;refine aF (fy rfl _ _ rfl HX.out.lz) rfl ?_;rw [HT.out];exact⟨_,_,rfl,eA.nil _,eA.nil _,HB.out⟩
 obtain⟨k,rfl⟩:∃k:Nat,t=k:=⟨t.toNat,by omega⟩;have f1:decide ((k:Int) < 0)=false:=aw q1;by_cases q2:m.types.length <=k
 ·have f2:decide ((m.types.length:Int) <=(k:Int))=true:=ay (by omega)
  have f3:decide (m.types.length <=k)=true:=ay q2;have HT:Hid (typeOf m k=(⟨[],[]⟩,false)):=V (by unfold typeOf;rw [if_pos (.inr (by omega))]);clear q1 q2;go_enter func114,ntmps114;go_wp2_with fail;refine aF (fy rfl _ _ rfl HX.out.lz) rfl ?_;rw [HT.out];exact⟨_,_,rfl,eA.nil _,eA.nil _,HB.out⟩
 ·have f2:decide ((m.types.length:Int) <=(k:Int))=false:=aw (by omega)
  have f3:decide (m.types.length <=k)=false:=aw q2;have hk:k < m.types.length:=by omega
  obtain⟨e,he⟩:∃e,m.types[k]?=some e:=⟨_,aq hk⟩;have HT:Hid (typeOf m k=(e,true)):=V (by unfold typeOf;rw [if_neg (by omega),Int.toNat_natCast,he];rfl);obtain⟨b,off,v,rfl,-,NA,N6⟩:=eD.get hr.1.1 he;have y0:=H.out.ext'.1 _ _ (NA 0 _ rfl);have y1:=H.out.ext'.1 _ _ (NA 1 _ rfl);rw [aJ]at y0;obtain⟨v1,v2⟩:=v;obtain⟨⟨b1,k1,e1,-,-,-⟩,⟨b2,k2,e2,-,-,-⟩⟩:=id N6.1;simp only at e1 e2;subst e1 e2;have NF:=V N6;clear q1 q2 NA N6 he;go_enter func114,ntmps114;go_wp2_with fail;have hx:=eS.new w #[.slice b1 e.params.length k1, .slice b2 e.results.length k2] 69;have No:=(an w.heap.size w).alloc (ag _) (.cells #[.slice b1 e.params.length k1, .slice b2 e.results.length k2] 69);refine aF (fy rfl _ _ rfl hx.lz) rfl ?_;rw [HT.out];exact⟨_,_,rfl,NF.out.1.1,NF.out.1.2,No⟩
theorem xg (w1:World) (C:Nat) (u:eT) (m:eI) (lv:Value) (ls:List Int) (w:World) (c:eX) (f:Nat) (hf:f <=100000) (h:gB w1 C u m lv w c) (hr:qi w1 C u m lv ls):
  Calls prog 199 #[.pointer (some ⟨C,0,none⟩), .int .i64 f] w (KR w1 C (gM m f) w):=by
 have HX:=V (eS.new w #[.slice none 0 0, .slice none 0 0] 69);have HB:=V ((an w.heap.size w).alloc (ag _) (.cells #[.slice none 0 0, .slice none 0 0] 69));have H:=V (h.alloc (.cells #[.slice none 0 0, .slice none 0 0] 69));obtain⟨a0,c0,a1,c1,a2,c2,a3,c3,a4,c4,a5,c5,a6,c6,a7,c7,rfl⟩:=eG.open hr.1;have HR:=V hr;have g1:=H.out.cell.2.1;have g2:=H.out.cell.2.2.1;have hil:m.imports.length <=9223372036854775807:=by
  obtain⟨_,_,_,h1,h2⟩:=fH hr.1.2.1;omega
 have hfl:m.funcs.length <=9223372036854775807:=by
  obtain⟨_,_,_,h1,h2⟩:=fH hr.1.2.2.1;omega
 have Nu:=h.lt;clear h;by_cases q1:f < m.imports.length
 ·have f1:decide ((f:Int) < (m.imports.length:Int))=true:=ay (by omega)
  have f2:decide (f < m.imports.length)=true:=ay q1;obtain⟨e,he⟩:∃e,m.imports[f]?=some e:=⟨_,aq q1⟩;have HF:Hid (gM m f=typeOf m e.type):=V (by unfold gM;rw [if_pos (by omega),Int.toNat_natCast,he];rfl);obtain⟨_,_,hv,_,_,Nk⟩:=hr.1.2.1;injection hv with e1 e2 e3;subst e1;obtain⟨b,off,rfl,-,NA⟩:=Nk f e he;have y2:=H.out.ext'.1 _ _ (NA 2 _ rfl);clear e2 e3 Nk NA he hr;go_enter func199,ntmps199;go_wp2_with fail;refine(oW w1 C _ m lv ls _ c e.type H.out HR.out).mono ?_;rintro e' w2 ⟨v1,v2,rfl,Qb,OI,hb⟩;obtain⟨b1,k1,rfl,-,-,-⟩:=id Qb;obtain⟨b2,k2,rfl,-,-,-⟩:=id OI;have HV1:=V Qb;have Ql:=V OI;have HX:=V (HX.out.below hb HX.out.lt);have HB:=V (HB.out.trans (hb.mono HB.out.size));clear Qb OI hb;obtain⟨x0,x1,z0,z1⟩:=HX.out.two;go_wp2_with fail;have hx:=HX.out.nC (.slice b1 (typeOf m e.type).1.params.length k1) (.slice b2 (typeOf m e.type).1.results.length k2);have Np:=fQ w2 w.heap.size (.slice b1 (typeOf m e.type).1.params.length k1) (.slice b2 (typeOf m e.type).1.results.length k2);refine aF (fy rfl _ _ rfl hx.lz) rfl ?_;rw [HF.out];exact⟨_,_,rfl,HV1.out,Ql.out,HB.out.trans (Np.below HB.out.size (fun i hi=>by omega))⟩
 ·have f1:decide ((f:Int) < (m.imports.length:Int))=false:=aw (by omega)
  have f2:decide (f < m.imports.length)=false:=aw q1;obtain⟨k,hk⟩:∃k,f - m.imports.length=k:=⟨_,rfl⟩;have f5:(f:Int) - (m.imports.length:Int)=(k:Int):=by omega
  have Nw:k <=100000:=by omega
  by_cases q2:k < m.funcs.length
  ·have f3:decide ((k:Int) < (m.funcs.length:Int))=true:=ay (by omega)
   have f4:decide (k < m.funcs.length)=true:=ay q2;obtain⟨e,he⟩:∃e,m.funcs[k]?=some e:=⟨_,aq q2⟩;have HF:Hid (gM m f=typeOf m e):=V (by
    unfold gM;rw [az (by omega),aE (by omega),show((f:Int) - (m.imports.length:Int)).toNat=k by omega,he];rfl)
   obtain⟨_,_,hv,_,_,Nk⟩:=hr.1.2.2.1;injection hv with e1 e2 e3;subst e1;obtain⟨b,off,rfl,-,NA⟩:=Nk k e he;have y0:=H.out.ext'.1 _ _ (NA 0 _ rfl);rw [aJ,aW]at y0;clear e2 e3 Nk NA he hr hk;go_enter func199,ntmps199;go_wp2_with fail;refine(oW w1 C _ m lv ls _ c e H.out HR.out).mono ?_;rintro e' w2 ⟨v1,v2,rfl,Qb,OI,hb⟩;obtain⟨b1,k1,rfl,-,-,-⟩:=id Qb;obtain⟨b2,k2,rfl,-,-,-⟩:=id OI;have HV1:=V Qb;have Ql:=V OI;have HX:=V (HX.out.below hb HX.out.lt);have HB:=V (HB.out.trans (hb.mono HB.out.size));clear Qb OI hb;obtain⟨x0,x1,z0,z1⟩:=HX.out.two;go_wp2_with fail;have hx:=HX.out.nC (.slice b1 (typeOf m e).1.params.length k1) (.slice b2 (typeOf m e).1.results.length k2);have Np:=fQ w2 w.heap.size (.slice b1 (typeOf m e).1.params.length k1) (.slice b2 (typeOf m e).1.results.length k2);refine aF (fy rfl _ _ rfl hx.lz) rfl ?_;rw [HF.out];exact⟨_,_,rfl,HV1.out,Ql.out,HB.out.trans (Np.below HB.out.size (fun i hi=>by omega))⟩
  ·have f3:decide ((k:Int) < (m.funcs.length:Int))=false:=aw (by omega)
   have f4:decide (k < m.funcs.length)=false:=aw q2;have HF:Hid (gM m f=typeOf m (-1)):=V (by
    unfold gM;rw [az (by omega),az (by omega)])
   clear hr hk;go_enter func199,ntmps199;go_wp2_with fail;refine(oW w1 C _ m lv ls _ c (-1) H.out HR.out).mono ?_;rintro e' w2 ⟨v1,v2,rfl,Qb,OI,hb⟩;obtain⟨b1,k1,rfl,-,-,-⟩:=id Qb;obtain⟨b2,k2,rfl,-,-,-⟩:=id OI;have HV1:=V Qb;have Ql:=V OI;have HX:=V (HX.out.below hb HX.out.lt);have HB:=V (HB.out.trans (hb.mono HB.out.size));clear Qb OI hb;obtain⟨x0,x1,z0,z1⟩:=HX.out.two;go_wp2_with fail;have hx:=HX.out.nC (.slice b1 (typeOf m (-1)).1.params.length k1) (.slice b2 (typeOf m (-1)).1.results.length k2);have Np:=fQ w2 w.heap.size (.slice b1 (typeOf m (-1)).1.params.length k1) (.slice b2 (typeOf m (-1)).1.results.length k2);refine aF (fy rfl _ _ rfl hx.lz) rfl ?_;rw [HF.out];exact⟨_,_,rfl,HV1.out,Ql.out,HB.out.trans (Np.below HB.out.size (fun i hi=>by omega))⟩
theorem Ex (w1:World) (C:Nat) (u:eT) (m:eI) (lv:Value) (ls:List Int) (w:World) (c:eX) (n:Nat) (h:gB w1 C u m lv w c) (hr:qi w1 C u m lv ls):
  Calls prog 200 #[.pointer (some ⟨C,0,none⟩), .int .i64 n] w (D2 w1 C u m lv (.int .i64 (eX.local ls c n).1) (eX.local ls c n).2 w):=by
 have H:=V h;obtain⟨a,cap,rfl,PV,Ow,Nk⟩:=id hr.2;have g14:=h.cell.2.2.2.2.2.2.1;have g17:=h.cell.2.2.2.2.2.2.2.1;have z17:=h.cell.2.2.2.2.2.2.2.2;by_cases q:n < ls.length
 ·have f1:decide ((ls.length:Int) <=(n:Int))=false:=aw (by omega)
  have f2:decide (ls.length <=n)=false:=aw (by omega);obtain⟨x,hx⟩:∃x,ls[n]?=some x:=⟨_,aq q⟩;have HL:Hid (eX.local ls c n=(x,c)):=V (by unfold eX.local;rw [if_neg (by omega),Int.toNat_natCast,hx];rfl);obtain⟨b,off,rfl,-,NA⟩:=Nk n x hx;have y0:=h.ext'.1 _ _ (NA 0 _ rfl);rw [aJ,aW]at y0;clear Nk NA hx h hr;go_enter func200,ntmps200;go_wp2;go_ret;rw [HL.out];exact⟨rfl,H.out,ep.refl _ _,rfl⟩
 ·have f1:decide ((ls.length:Int) <=(n:Int))=true:=ay (by omega)
  have f2:decide (ls.length <=n)=true:=ay (by omega);have HL:Hid (eX.local ls c n=(0,{c with bad:=true})):=V (by unfold eX.local;rw [if_pos (by omega)]);clear Nk h hr q;go_enter func200,ntmps200;go_wp2;go_ret;rw [HL.out];exact⟨rfl,H.out.fail,eE w C 17 _,cA _ _ _ _ (by simp)⟩
theorem FF (w1:World) (C:Nat) (u:eT) (m:eI) (lv:Value) (w:World) (c:eX) (t:gC) (ok:Bool) (v1 v2:Value) (h:gB w1 C u m lv w c) (Nt:ig c) (h1:eA 1 fk (tg C w1) v1 t.params) (h2:eA 1 fk (tg C w1) v2 t.results)
  (hp:t.params.length <=1000000) (hn:((c.need ok).gd t.params).eu.length+t.results.length <=100000):
  Calls prog 198 #[.pointer (some ⟨C,0,none⟩), .agg #[v1,v2], .bool ok] w (n5 w1 C u m lv (.tuple #[]) (c.calls (t,ok))):=by
 obtain⟨a1,k1,rfl,-,-,-⟩:=id h1;obtain⟨a2,k2,rfl,-,-,-⟩:=id h2;have hb:=(an w.heap.size w).alloc (ag _) (.cells #[.slice a1 t.params.length k1, .slice a2 t.results.length k2] 69);have Nu:=h.lt;have H:=V (h.below hb);have HX:=V (eS.new w #[.slice a1 t.params.length k1, .slice a2 t.results.length k2] 69);have H1:=V h1;have H2:=V h2;have Oj:=V (show ig (c.need ok)from⟨⟨Nt.1.1,Nt.1.2⟩,Nt.2⟩);clear h h1 h2 Nt hb;go_enter func198,ntmps198;go_wp2_with fail;refine(jX w1 C u m lv _ c ok H.out).mono ?_;rintro e w2 ⟨rfl,hs,hk,-⟩;have HS:=V hs;have HX:=V (HX.out.keeps hk (by omega));clear hs hk;have x0:=HX.out.cell 0;simp only [aM,aK]at x0;go_wp2_with fail;refine(oZ w1 C u m lv w2 _ _ t.params HS.out Oj.out (H1.out.ext HS.out.ext) hp).mono ?_;rintro e w3 ⟨rfl,hs,hk,-⟩;have HS:=V hs;have HX:=V (HX.out.keeps hk (by omega));clear hs hk x0;have x1:=HX.out.cell 1;simp only [aM,aK,aT]at x1;go_wp2_with fail;refine(my w1 C u m lv w3 _ _ t.results HS.out (H2.out.ext HS.out.ext) hn).mono ?_;rintro e w4 ⟨rfl,hs⟩;have HS:=V hs;clear hs x1;go_wp2
 go_end0
 exact⟨rfl,HS.out⟩
def rJ (w1:World) (C:Nat) (u:eT) (m:eI) (lv:Value) (x:fa) (c:eX) (w:World) (e:Ending) (w':World):Prop:=
 (∃c',c.control m x=some c'/\e= .returned (.bool true)/\gB w1 C u m lv w' c')\/(c.control m x=none/\e= .returned (.bool false)/\gB w1 C u m lv w' c/\ep (fun i=>i=C) w w')
def eI.short (m:eI):Prop:=∀t∈m.types,t.params.length <=1000/\t.results.length <=10
theorem sE {m:eI} (h:m.short) (t:Int):(typeOf m t).1.params.length <=1000/\(typeOf m t).1.results.length <=10:=by
 unfold typeOf;split
 ·simp
 ·simp only
  cases hx:m.types[t.toNat]? with
  | none=>simp
  | some x=>exact h x (aN hx)
theorem oL {m:eI} (h:m.short) (f:Int):(gM m f).1.params.length <=1000/\(gM m f).1.results.length <=10:=sE h _
theorem po (k:Int):(gS k).length <=1:=by unfold gS;split <;>simp
theorem MA (w1:World) (C:Nat) (u:eT) (m:eI) (lv:Value) (ls:List Int) (w:World) (c:eX) (a b:Int) (al:Option Addr) (nl cl:Nat) (l:List Int) (h:gB w1 C u m lv w c) (Nt:ig c) (hr:qi w1 C u m lv ls) (PH:m.short) (hv:c.eu.length <=50000) (hc:c.fc.length <=50000):
  Calls prog 116 #[.pointer (some ⟨C,0,none⟩), .agg #[.int .i64 0, .int .i64 a, .int .i64 b, .slice al nl cl]] w (rJ w1 C u m lv ⟨0,a,b,l⟩ c w):=by
 have hu:=And.intro hr (And.intro PH (And.intro hv hc));clear hu;have hb:=(an w.heap.size w).alloc (ag _) (.cells #[.int .i64 0, .int .i64 a, .int .i64 b, .slice al nl cl] 39);have Nu:=h.lt;have HS:=V (h.below hb);have HX:=V (eS.new w #[.int .i64 0, .int .i64 a, .int .i64 b, .slice al nl cl] 39);have HK:=V (ep.et (S:=fun i=>i=C) hb);have Oj:=V Nt;have y0:=HX.out.cell 0;have y1:=HX.out.cell 1;simp only [aM,aK,aT]at y0 y1;clear h hb Nt;go_enter func116,ntmps116;go_wp2_with fail;refine(AX w1 C u m lv _ _ HS.out Oj.out).mono ?_;rintro e w9 ⟨rfl,hs⟩;have HS:=V hs;clear hs;go_wp2;go_ret;exact .inl ⟨_,rfl,rfl,HS.out⟩
theorem MH (w1:World) (C:Nat) (u:eT) (m:eI) (lv:Value) (ls:List Int) (w:World) (c:eX) (a b:Int) (al:Option Addr) (nl cl:Nat) (l:List Int) (h:gB w1 C u m lv w c) (Nt:ig c) (hr:qi w1 C u m lv ls) (PH:m.short) (hv:c.eu.length <=50000) (hc:c.fc.length <=50000):
  Calls prog 116 #[.pointer (some ⟨C,0,none⟩), .agg #[.int .i64 2, .int .i64 a, .int .i64 b, .slice al nl cl]] w (rJ w1 C u m lv ⟨2,a,b,l⟩ c w):=by
 have hu:=And.intro hr (And.intro PH (And.intro hv hc));clear hu;have hb:=(an w.heap.size w).alloc (ag _) (.cells #[.int .i64 2, .int .i64 a, .int .i64 b, .slice al nl cl] 39);have Nu:=h.lt;have HS:=V (h.below hb);have HX:=V (eS.new w #[.int .i64 2, .int .i64 a, .int .i64 b, .slice al nl cl] 39);have HK:=V (ep.et (S:=fun i=>i=C) hb);have Oj:=V Nt;have y0:=HX.out.cell 0;have y1:=HX.out.cell 1;simp only [aM,aK,aT]at y0 y1;clear h hb Nt;go_enter func116,ntmps116;go_wp2_with fail;refine(wP w1 C u m lv _ c 2 a HS.out (by omega)).mono ?_;rintro e w9 ⟨rfl,hs⟩;have HS:=V hs;clear hs y0 y1;go_wp2;go_ret;exact .inl ⟨_,rfl,rfl,HS.out⟩
theorem LD (w1:World) (C:Nat) (u:eT) (m:eI) (lv:Value) (ls:List Int) (w:World) (c:eX) (a b:Int) (al:Option Addr) (nl cl:Nat) (l:List Int) (h:gB w1 C u m lv w c) (Nt:ig c) (hr:qi w1 C u m lv ls) (PH:m.short) (hv:c.eu.length <=50000) (hc:c.fc.length <=50000):
  Calls prog 116 #[.pointer (some ⟨C,0,none⟩), .agg #[.int .i64 11, .int .i64 a, .int .i64 b, .slice al nl cl]] w (rJ w1 C u m lv ⟨11,a,b,l⟩ c w):=by
 have hu:=And.intro hr (And.intro PH (And.intro hv hc));clear hu;have hb:=(an w.heap.size w).alloc (ag _) (.cells #[.int .i64 11, .int .i64 a, .int .i64 b, .slice al nl cl] 39);have Nu:=h.lt;have HS:=V (h.below hb);have HX:=V (eS.new w #[.int .i64 11, .int .i64 a, .int .i64 b, .slice al nl cl] 39);have HK:=V (ep.et (S:=fun i=>i=C) hb);have Oj:=V Nt;have y0:=HX.out.cell 0;have y1:=HX.out.cell 1;simp only [aM,aK,aT]at y0 y1;clear h hb Nt;go_enter func116,ntmps116;go_wp2_with fail;refine(vI w1 C u m lv _ c HS.out Oj.out).mono ?_;rintro e w2 ⟨rfl,hs,hk⟩;unfold Ij;have hb:=(an w2.heap.size w2).alloc (ag _) (.cells #[.int .i64 c.top.op, .int .i64 c.top.kind, .int .i64 c.top.fb, .bool c.top.dead] 191);have HS:=V (hs.below hb);have HT:=V (eS.new w2 #[.int .i64 c.top.op, .int .i64 c.top.kind, .int .i64 c.top.fb, .bool c.top.dead] 191);have hl2:=hs.lt;clear hs hk y0 y1 hb;obtain⟨⟨t0,t1,t2,t3⟩,-,-,-,-⟩:=HT.out.four;clear t2 t3;by_cases q1:c.top.op=4
 ·have f1:(c.top.op !=4)=false:=by simp [q1]
  by_cases q2:c.top.kind=0
  ·have f2:=eV q2
   have HQ:=V (show(c.top.op !=4 || c.top.kind==0)=true by rw [f1,f2];rfl);clear q1 q2;go_wp2_with fail;refine(jX w1 C u m lv _ c.shut.2 true HS.out).mono ?_;rintro e w3 ⟨rfl,hs,hk,-⟩;have HS:=V hs;have HT:=V (HT.out.keeps hk (by omega));clear hs hk t0 t1;have t1:=HT.out.cell 1;simp only [aM,aK,aT]at t1;go_wp2_with fail;refine(nD c.top.kind w3 C HS.out.lt.1).mono ?_;rintro e w4 ⟨kv,rfl,hl,hb⟩;have HL:=V hl;have HS:=V (HS.out.below hb);clear hl hb t1;have QL:=po c.top.kind;have PY:=ss c;go_wp2_with fail;refine(my w1 C u m lv w4 _ _ _ HS.out HL.out (by show c.shut.2.eu.length+_ <=_;omega)).mono ?_;rintro e w5 ⟨rfl,hs⟩;have HS:=V hs;clear hs;go_wp2;go_ret;refine .inl ⟨_,rfl,rfl,?_⟩;show gB w1 C u m lv w5 ((c.shut.2.need (c.top.op !=4 || c.top.kind==0)).push (gS c.top.kind));rw [HQ.out];exact HS.out
  ·have f2:=eh q2
   have HQ:=V (show(c.top.op !=4 || c.top.kind==0)=false by rw [f1,f2];rfl);clear q1 q2;go_wp2_with fail;refine(jX w1 C u m lv _ c.shut.2 false HS.out).mono ?_;rintro e w3 ⟨rfl,hs,hk,-⟩;have HS:=V hs;have HT:=V (HT.out.keeps hk (by omega));clear hs hk t0 t1;have t1:=HT.out.cell 1;simp only [aM,aK,aT]at t1;go_wp2_with fail;refine(nD c.top.kind w3 C HS.out.lt.1).mono ?_;rintro e w4 ⟨kv,rfl,hl,hb⟩;have HL:=V hl;have HS:=V (HS.out.below hb);clear hl hb t1;have QL:=po c.top.kind;have PY:=ss c;go_wp2_with fail;refine(my w1 C u m lv w4 _ _ _ HS.out HL.out (by show c.shut.2.eu.length+_ <=_;omega)).mono ?_;rintro e w5 ⟨rfl,hs⟩;have HS:=V hs;clear hs;go_wp2;go_ret;refine .inl ⟨_,rfl,rfl,?_⟩;show gB w1 C u m lv w5 ((c.shut.2.need (c.top.op !=4 || c.top.kind==0)).push (gS c.top.kind));rw [HQ.out];exact HS.out
 ·have f1:(c.top.op !=4)=true:=by simp [q1]
  have HQ:=V (show(c.top.op !=4 || c.top.kind==0)=true by rw [f1];rfl);clear q1;go_wp2_with fail;refine(jX w1 C u m lv _ c.shut.2 true HS.out).mono ?_;rintro e w3 ⟨rfl,hs,hk,-⟩;have HS:=V hs;have HT:=V (HT.out.keeps hk (by omega));clear hs hk t0 t1;have t1:=HT.out.cell 1;simp only [aM,aK,aT]at t1;go_wp2_with fail;refine(nD c.top.kind w3 C HS.out.lt.1).mono ?_;rintro e w4 ⟨kv,rfl,hl,hb⟩;have HL:=V hl;have HS:=V (HS.out.below hb);clear hl hb t1;have QL:=po c.top.kind;have PY:=ss c;go_wp2_with fail;refine(my w1 C u m lv w4 _ _ _ HS.out HL.out (by show c.shut.2.eu.length+_ <=_;omega)).mono ?_;rintro e w5 ⟨rfl,hs⟩;have HS:=V hs;clear hs;go_wp2;go_ret;refine .inl ⟨_,rfl,rfl,?_⟩;show gB w1 C u m lv w5 ((c.shut.2.need (c.top.op !=4 || c.top.kind==0)).push (gS c.top.kind));rw [HQ.out];exact HS.out
theorem Ml (w1:World) (C:Nat) (u:eT) (m:eI) (lv:Value) (ls:List Int) (w:World) (c:eX) (a b:Int) (al:Option Addr) (nl cl:Nat) (l:List Int) (h:gB w1 C u m lv w c) (Nt:ig c) (hr:qi w1 C u m lv ls) (PH:m.short) (hv:c.eu.length <=50000) (hc:c.fc.length <=50000) (ha:0 <=a/\a <=1000):
  Calls prog 116 #[.pointer (some ⟨C,0,none⟩), .agg #[.int .i64 12, .int .i64 a, .int .i64 b, .slice al nl cl]] w (rJ w1 C u m lv ⟨12,a,b,l⟩ c w):=by
 obtain⟨k,rfl⟩:∃k:Nat,a=k:=⟨a.toNat,by omega⟩;have hu:=And.intro hr (And.intro PH (And.intro hv hc));clear hu;have hb:=(an w.heap.size w).alloc (ag _) (.cells #[.int .i64 12, .int .i64 k, .int .i64 b, .slice al nl cl] 39);have Nu:=h.lt;have HS:=V (h.below hb);have HX:=V (eS.new w #[.int .i64 12, .int .i64 k, .int .i64 b, .slice al nl cl] 39);have HK:=V (ep.et (S:=fun i=>i=C) hb);have Oj:=V Nt;have y0:=HX.out.cell 0;have y1:=HX.out.cell 1;simp only [aM,aK,aT]at y0 y1;clear h hb Nt;go_enter func116,ntmps116;go_wp2_with fail;refine(Ew w1 C u m lv _ _ k HS.out).mono ?_;rintro e w2 ⟨kv,rfl,hl,hs,hk⟩;have HS:=V hs;have HL:=V hl;have HX:=V (HX.out.keeps hk (by omega));clear hs hk y0 y1 hl;have hok2:ig (c.label k).2:=Oj.out.label _;have QL:=E3 c k;go_wp2_with fail;refine(oZ w1 C u m lv w2 _ kv _ HS.out hok2 HL.out (by omega)).mono ?_;rintro e w3 ⟨rfl,hs,hk,-⟩;have HS:=V hs;clear hs hk;go_wp2_with fail;refine(AX w1 C u m lv _ _ HS.out (hok2.gd _)).mono ?_;rintro e w9 ⟨rfl,hs⟩;have HS:=V hs;clear hs;go_wp2;go_ret;exact .inl ⟨_,rfl,rfl,HS.out⟩
theorem LY (w1:World) (C:Nat) (u:eT) (m:eI) (lv:Value) (ls:List Int) (w:World) (c:eX) (a b:Int) (al:Option Addr) (nl cl:Nat) (l:List Int) (h:gB w1 C u m lv w c) (Nt:ig c) (hr:qi w1 C u m lv ls) (PH:m.short) (hv:c.eu.length <=50000) (hc:c.fc.length <=50000) (ha:0 <=a/\a <=1000):
  Calls prog 116 #[.pointer (some ⟨C,0,none⟩), .agg #[.int .i64 16, .int .i64 a, .int .i64 b, .slice al nl cl]] w (rJ w1 C u m lv ⟨16,a,b,l⟩ c w):=by
 obtain⟨k,rfl⟩:∃k:Nat,a=k:=⟨a.toNat,by omega⟩;have hu:=And.intro hr (And.intro PH (And.intro hv hc));clear hu;have hb:=(an w.heap.size w).alloc (ag _) (.cells #[.int .i64 16, .int .i64 k, .int .i64 b, .slice al nl cl] 39);have Nu:=h.lt;have HS:=V (h.below hb);have HX:=V (eS.new w #[.int .i64 16, .int .i64 k, .int .i64 b, .slice al nl cl] 39);have HK:=V (ep.et (S:=fun i=>i=C) hb);have Oj:=V Nt;have y0:=HX.out.cell 0;have y1:=HX.out.cell 1;simp only [aM,aK,aT]at y0 y1;clear h hb Nt;go_enter func116,ntmps116;go_wp2_with fail;refine(xg w1 C u m lv ls _ c k (by omega) HS.out hr).mono ?_;rintro e w2 ⟨v1,v2,rfl,Qb,OI,hb⟩;have HS:=V (HS.out.below hb);have HV1:=V Qb;have Ql:=V OI;clear hb Qb OI y0 y1;have hsh:=oL PH (k:Int);have PY:((c.need (gM m k).2).gd (gM m k).1.params).eu.length <=50000:=aQ (eX.mc _ _) hv;go_wp2_with fail;refine(FF w1 C u m lv w2 c (gM m k).1 (gM m k).2 _ _ HS.out Oj.out HV1.out Ql.out (by omega) (by omega)).mono ?_;rintro e w3 ⟨rfl,hs⟩;have HS:=V hs;clear hs;go_wp2;go_ret;exact .inl ⟨_,rfl,rfl,HS.out⟩
theorem MU (w1:World) (C:Nat) (u:eT) (m:eI) (lv:Value) (w:World) (c:eX) (op a b:Int) (al:Option Addr) (nl cl:Nat) (l:List Int) (h:gB w1 C u m lv w c) (Pc:¬ (op=0\/op=1\/op=2\/op=3\/op=4\/op=5\/op=11\/op=12\/op=13\/op=14\/op=15\/op=16\/op=17)):
  Calls prog 116 #[.pointer (some ⟨C,0,none⟩), .agg #[.int .i64 op, .int .i64 a, .int .i64 b, .slice al nl cl]] w (rJ w1 C u m lv ⟨op,a,b,l⟩ c w):=by
 have HN:Hid (c.control m ⟨op,a,b,l⟩=none):=V (by
  unfold eX.control;simp only
  repeat (rw [az (by omega)]))
 have f0:(op==0)=false:=eh (by omega);have f1:(op==1)=false:=eh (by omega);have f2:(op==2)=false:=eh (by omega);have f3:(op==3)=false:=eh (by omega);have f4:(op==4)=false:=eh (by omega);have f5:(op==5)=false:=eh (by omega);have f11:(op==11)=false:=eh (by omega);have f12:(op==12)=false:=eh (by omega);have f13:(op==13)=false:=eh (by omega);have f14:(op==14)=false:=eh (by omega);have f15:(op==15)=false:=eh (by omega);have f16:(op==16)=false:=eh (by omega);have f17:(op==17)=false:=eh (by omega);have hb:=(an w.heap.size w).alloc (ag _) (.cells #[.int .i64 op, .int .i64 a, .int .i64 b, .slice al nl cl] 39);have HS:=V (h.below hb);have HX:=V (eS.new w #[.int .i64 op, .int .i64 a, .int .i64 b, .slice al nl cl] 39);have HK:=V (ep.et (S:=fun i=>i=C) hb);have y0:=HX.out.cell 0;simp only [aM,aK]at y0;clear h hb Pc;go_enter func116,ntmps116;go_wp2;go_ret;exact .inr ⟨HN.out,rfl,HS.out,HK.out⟩
theorem eA.rd {α:Type} {k:Nat} {enc:α ->List Value} {w:World} {C:Nat} {v:Value} {l:List α} (h:eA k enc w v l) (hv:∀a n cap,v= .slice (some a) n cap ->a.block≠C):eA k enc (tg C w) v l:=by
 obtain⟨a,cap,rfl,h1,h2,h3⟩:=h;refine⟨a,cap,rfl,h1,h2,fun i x hx=>?_⟩;obtain⟨b,off,ha,Nu,hc⟩:=h3 i x hx;have hb:b≠C:=by
  subst ha;exact hv _ _ _ rfl
 refine⟨b,off,ha,by unfold tg;rw [iz];exact Nu,fun j u hu=>?_⟩;rw [<- hc j u hu];exact aY (jA w (by simp [hb]))
theorem lJ (w:World) (x:Int) (t:TypeId) {C:Nat} (hC:C < w.heap.size):eA 1 fk (tg C (w.alloc (.cells #[.int .i64 x] t))) (.slice (some ⟨w.heap.size,0,none⟩) 1 1) [x]:=
 (lY w x t).rd (fun a n cap he=>by injection he with e1;injection e1 with e1;subst e1;simp;omega)
theorem Ax (w:World) (x y:Int) (t:TypeId) {C:Nat} (hC:C < w.heap.size):eA 1 fk (tg C (w.alloc (.cells #[.int .i64 x, .int .i64 y] t))) (.slice (some ⟨w.heap.size,0,none⟩) 2 2) [x,y]:=
 (qI w x y t).rd (fun a n cap he=>by injection he with e1;injection e1 with e1;subst e1;simp;omega)
def Fz (C:Nat) (op:Int) (w:World) (e:Ending) (w':World):Prop:=
 ∃v,e= .returned (.tuple #[v, .int .i64 (fh op).2.1, .bool (fh op).2.2])/\eA 1 fk (tg C w') v (fh op).1/\Below w.heap.size w w'
theorem rO (op:Int) (w:World) (C:Nat) (hC:C < w.heap.size):Calls prog 133 #[.int .i64 op] w (Fz C op w):=by
 have hb:=an w.heap.size w;have O4:∀w1:World,Below w1.heap.size w1 w1:=fun w1=>an _ _;by_cases q1:op=167
 ·subst q1
  go_enter func133,ntmps133;go_wp2
  go_ret3
  exact⟨_,rfl,lJ w 2 _ hC,hb.alloc (ag _) _⟩
 have f1:(op==167)=false:=eh q1;by_cases q2:op=172
 ·subst q2
  go_enter func133,ntmps133;go_wp2
  go_ret3
  exact⟨_,rfl,lJ w 1 _ hC,hb.alloc (ag _) _⟩
 have f2:(op==172)=false:=eh q2;by_cases q3:op=173
 ·subst q3
  go_enter func133,ntmps133;go_wp2
  go_ret3
  exact⟨_,rfl,lJ w 1 _ hC,hb.alloc (ag _) _⟩
 have f3:(op==173)=false:=eh q3;have HQ:Hid (op≠167/\op≠172/\op≠173):=V ⟨q1,q2,q3⟩;clear q1 q2 q3 O4;go_enter func133,ntmps133;go_wp2_with fail;refine(rv op _).mono ?_;rintro x w1 ⟨rfl,Nx⟩;obtain⟨k,hk⟩:∃k,(tR op).1=k:=⟨_,rfl⟩;obtain⟨l,hl⟩:∃l,(tR op).2=l:=⟨_,rfl⟩;rw [hk,hl];have HK:=V hk;have HL:=V hl;replace hb:=ej hb Nx;clear hk hl Nx f1 f2 f3;by_cases q4:k=0
 ·have f4:(k==0)=true:=eV q4
  have H4:=V q4;clear q4;go_wp2
  go_ret3
  have:fh op=([],0,false):=by rw [fh,az HQ.out.1,az HQ.out.2.1,az HQ.out.2.2,HK.out,aE H4.out]
  exact⟨_,by rw [this];rfl,by rw [this];exact eA.nil _,hb⟩
 have f4:(k==0)=false:=eh q4;have H4:=V (show k≠0 from q4);clear q4;by_cases q5:l=69
 ·have f5:(l==69)=true:=eV q5
  have H5:=V q5;clear q5;go_wp2
  go_ret3
  have:fh op=([k],1,true):=by rw [fh,az HQ.out.1,az HQ.out.2.1,az HQ.out.2.2,HK.out,HL.out,az H4.out,aE H5.out]
  exact⟨_,by rw [this];rfl,by rw [this];exact lJ _ k _ (by have:=hb.size;omega),hb.alloc hb.size _⟩
 have f5:(l==69)=false:=eh q5;have H5:=V (show l≠69 from q5);clear q5;go_wp2_with fail;refine(iX l 70 79 _).mono ?_;rintro x w2 ⟨rfl,NJ⟩;replace hb:=ej hb NJ;clear NJ f4 f5;cases h6:mE l 70 79 with
 | true=>
  have H6:=V h6;clear h6;go_wp2
  go_ret3
  have:fh op=([k,k],1,true):=by rw [fh,az HQ.out.1,az HQ.out.2.1,az HQ.out.2.2,HK.out,HL.out,az H4.out,az H5.out,H6.out];rfl
  exact⟨_,by rw [this];rfl,by rw [this];exact Ax _ k k _ (by have:=hb.size;omega),hb.alloc hb.size _⟩
 | false=>
  have H6:=V h6;clear h6;go_wp2_with fail;refine(iX l 103 105 _).mono ?_;rintro x w3 ⟨rfl,NJ⟩;replace hb:=ej hb NJ;clear NJ;cases h7:mE l 103 105 with
  | true=>
   have H7:=V h7;clear h7;go_wp2
   go_ret3
   have:fh op=([k],k,true):=by rw [fh,az HQ.out.1,az HQ.out.2.1,az HQ.out.2.2,HK.out,HL.out,az H4.out,az H5.out,H6.out,H7.out];rfl
   exact⟨_,by rw [this];rfl,by rw [this];exact lJ _ k _ (by have:=hb.size;omega),hb.alloc hb.size _⟩
  | false=>
   have H7:=V h7;clear h7;go_wp2
   go_ret3
   have:fh op=([k,k],k,true):=by rw [fh,az HQ.out.1,az HQ.out.2.1,az HQ.out.2.2,HK.out,HL.out,az H4.out,az H5.out,H6.out,H7.out];rfl
   exact⟨_,by rw [this];rfl,by rw [this];exact Ax _ k k _ (by have:=hb.size;omega),hb.alloc hb.size _⟩
theorem zV (op:Int):(fh op).1.length <=2:=by
 unfold fh;split
 ·simp
 split
 ·simp
 split
 ·simp
 split
 ·simp
 split
 ·simp
 split
 ·simp
 split <;>simp
theorem MS (w1:World) (C:Nat) (u:eT) (m:eI) (lv:Value) (ls:List Int) (w:World) (c:eX) (a b:Int) (al:Option Addr) (nl cl:Nat) (l:List Int) (h:gB w1 C u m lv w c) (Nt:ig c) (hr:qi w1 C u m lv ls) (hv:c.eu.length <=50000):
  Calls prog 117 #[.pointer (some ⟨C,0,none⟩), .agg #[.int .i64 26, .int .i64 a, .int .i64 b, .slice al nl cl]] w (n5 w1 C u m lv (.tuple #[]) (eX.plain m ls c ⟨26,a,b,l⟩)):=by
 have hu:=And.intro Nt (And.intro hr hv);clear hu;have Nx:=(an w.heap.size w).alloc (ag _) (.cells #[.int .i64 26, .int .i64 a, .int .i64 b, .slice al nl cl] 39);have hX:=eS.new w #[.int .i64 26, .int .i64 a, .int .i64 b, .slice al nl cl] 39;have No:=(Nx.alloc Nx.size (.cells #[.int .i64 1] 3)).alloc (by rw [aC];exact aQ Nx.size (ee _)) (.cells #[.int .i64 2] 3);have HX:=V ((hX.alloc (.cells #[.int .i64 1] 3)).alloc (.cells #[.int .i64 2] 3));have Nu:=h.lt;have HS:=V (h.below No);have Oj:=V Nt;have y0:=hX.cell 0;have y0':=HX.out.cell 0;have y1:=HX.out.cell 1;simp only [aM,aK,aT]at y0 y0' y1;clear h Nx No hX Nt;go_enter func117,ntmps117;go_wp2_with fail;refine(DZ w1 C u m lv _ c 0 HS.out Oj.out.2 Oj.out.top).mono ?_;rintro e w2 ⟨rfl,hs,hk,-⟩;have HS:=V hs;have HX:=V (HX.out.keeps hk (by omega));clear hs hk y0 y0' y1;have y0:=HX.out.cell 0;have y1:=HX.out.cell 1;simp only [aM,aK,aT]at y0 y1;go_wp2
 go_end0
 exact⟨rfl,HS.out⟩
theorem ME (w1:World) (C:Nat) (u:eT) (m:eI) (lv:Value) (ls:List Int) (w:World) (c:eX) (a b:Int) (al:Option Addr) (nl cl:Nat) (l:List Int) (h:gB w1 C u m lv w c) (Nt:ig c) (hr:qi w1 C u m lv ls) (hv:c.eu.length <=50000) (ha:0 <=a/\a <=1000):
  Calls prog 117 #[.pointer (some ⟨C,0,none⟩), .agg #[.int .i64 32, .int .i64 a, .int .i64 b, .slice al nl cl]] w (n5 w1 C u m lv (.tuple #[]) (eX.plain m ls c ⟨32,a,b,l⟩)):=by
 obtain⟨k,rfl⟩:∃k:Nat,a=k:=⟨a.toNat,by omega⟩;have hu:=And.intro Nt (And.intro hr hv);clear hu;have Nx:=(an w.heap.size w).alloc (ag _) (.cells #[.int .i64 32, .int .i64 k, .int .i64 b, .slice al nl cl] 39);have hX:=eS.new w #[.int .i64 32, .int .i64 k, .int .i64 b, .slice al nl cl] 39;have No:=(Nx.alloc Nx.size (.cells #[.int .i64 1] 3)).alloc (by rw [aC];exact aQ Nx.size (ee _)) (.cells #[.int .i64 2] 3);have HX:=V ((hX.alloc (.cells #[.int .i64 1] 3)).alloc (.cells #[.int .i64 2] 3));have Nu:=h.lt;have HS:=V (h.below No);have Oj:=V Nt;have y0:=hX.cell 0;have y0':=HX.out.cell 0;have y1:=HX.out.cell 1;simp only [aM,aK,aT]at y0 y0' y1;clear h Nx No hX Nt;go_enter func117,ntmps117;go_wp2_with fail;refine(Ex w1 C u m lv ls _ c k HS.out hr).mono ?_;rintro e w2 ⟨rfl,hs,hk,-⟩;have HS:=V hs;have HX:=V (HX.out.keeps hk (by omega));clear hs hk y0 y0' y1;have y0:=HX.out.cell 0;have y1:=HX.out.cell 1;simp only [aM,aK,aT]at y0 y1;have l1:(eX.local ls c k).2.eu.length <=50000:=by rw [(pJ c ls k).2];exact hv
 have hb:=(an w2.heap.size w2).alloc (ag _) (.cells #[.int .i64 (eX.local ls c k).1] 3);have HL:=V (lJ w2 (eX.local ls c k).1 3 HS.out.lt.1);have HS:=V (HS.out.below hb);clear hb;go_wp2_with fail;refine(my w1 C u m lv _ _ _ [(eX.local ls c k).1] HS.out HL.out (by simp only [aB];omega)).mono ?_;rintro e w9 ⟨rfl,hs⟩;have HS:=V hs;clear hs;go_wp2
 go_end0
 exact⟨rfl,HS.out⟩
theorem MN (w1:World) (C:Nat) (u:eT) (m:eI) (lv:Value) (ls:List Int) (w:World) (c:eX) (a b:Int) (al:Option Addr) (nl cl:Nat) (l:List Int) (h:gB w1 C u m lv w c) (Nt:ig c) (hr:qi w1 C u m lv ls) (hv:c.eu.length <=50000):
  Calls prog 117 #[.pointer (some ⟨C,0,none⟩), .agg #[.int .i64 65, .int .i64 a, .int .i64 b, .slice al nl cl]] w (n5 w1 C u m lv (.tuple #[]) (eX.plain m ls c ⟨65,a,b,l⟩)):=by
 have hu:=And.intro Nt (And.intro hr hv);clear hu;have Nx:=(an w.heap.size w).alloc (ag _) (.cells #[.int .i64 65, .int .i64 a, .int .i64 b, .slice al nl cl] 39);have hX:=eS.new w #[.int .i64 65, .int .i64 a, .int .i64 b, .slice al nl cl] 39;have No:=(Nx.alloc Nx.size (.cells #[.int .i64 1] 3)).alloc (by rw [aC];exact aQ Nx.size (ee _)) (.cells #[.int .i64 2] 3);have HX:=V ((hX.alloc (.cells #[.int .i64 1] 3)).alloc (.cells #[.int .i64 2] 3));have Nu:=h.lt;have HS:=V (h.below No);have Oj:=V Nt;have y0:=hX.cell 0;have y0':=HX.out.cell 0;have y1:=HX.out.cell 1;simp only [aM,aK,aT]at y0 y0' y1;clear h Nx No hX Nt;go_enter func117,ntmps117;go_wp2_with fail;have HL:=V (lJ (((w.alloc (.cells #[.int .i64 65, .int .i64 a, .int .i64 b, .slice al nl cl] 39)).alloc (.cells #[.int .i64 1] 3)).alloc (.cells #[.int .i64 2] 3)) 1 3 HS.out.lt.1);have HS:=V (HS.out.alloc (.cells #[.int .i64 1] 3));simp only [aC]at HL;refine(my w1 C u m lv _ _ _ [1] HS.out HL.out (by simp only [aB];omega)).mono ?_;rintro e w9 ⟨rfl,hs⟩;have HS:=V hs;clear hs;go_wp2
 go_end0
 exact⟨rfl,HS.out⟩
theorem MT (w1:World) (C:Nat) (u:eT) (m:eI) (lv:Value) (ls:List Int) (w:World) (c:eX) (a b:Int) (al:Option Addr) (nl cl:Nat) (l:List Int) (h:gB w1 C u m lv w c) (Nt:ig c) (hr:qi w1 C u m lv ls) (hv:c.eu.length <=50000):
  Calls prog 117 #[.pointer (some ⟨C,0,none⟩), .agg #[.int .i64 66, .int .i64 a, .int .i64 b, .slice al nl cl]] w (n5 w1 C u m lv (.tuple #[]) (eX.plain m ls c ⟨66,a,b,l⟩)):=by
 have hu:=And.intro Nt (And.intro hr hv);clear hu;have Nx:=(an w.heap.size w).alloc (ag _) (.cells #[.int .i64 66, .int .i64 a, .int .i64 b, .slice al nl cl] 39);have hX:=eS.new w #[.int .i64 66, .int .i64 a, .int .i64 b, .slice al nl cl] 39;have No:=(Nx.alloc Nx.size (.cells #[.int .i64 1] 3)).alloc (by rw [aC];exact aQ Nx.size (ee _)) (.cells #[.int .i64 2] 3);have HX:=V ((hX.alloc (.cells #[.int .i64 1] 3)).alloc (.cells #[.int .i64 2] 3));have Nu:=h.lt;have HS:=V (h.below No);have Oj:=V Nt;have y0:=hX.cell 0;have y0':=HX.out.cell 0;have y1:=HX.out.cell 1;simp only [aM,aK,aT]at y0 y0' y1;clear h Nx No hX Nt;go_enter func117,ntmps117;go_wp2_with fail;have HL:=V (lJ (((w.alloc (.cells #[.int .i64 66, .int .i64 a, .int .i64 b, .slice al nl cl] 39)).alloc (.cells #[.int .i64 1] 3)).alloc (.cells #[.int .i64 2] 3)) 2 3 HS.out.lt.1);have HS:=V (HS.out.alloc (.cells #[.int .i64 2] 3));simp only [aC]at HL;refine(my w1 C u m lv _ _ _ [2] HS.out HL.out (by simp only [aB];omega)).mono ?_;rintro e w9 ⟨rfl,hs⟩;have HS:=V hs;clear hs;go_wp2
 go_end0
 exact⟨rfl,HS.out⟩
theorem Nd (w1:World) (C:Nat) (u:eT) (m:eI) (lv:Value) (ls:List Int) (w:World) (c:eX) (op a b:Int) (al:Option Addr) (nl cl:Nat) (l:List Int) (h:gB w1 C u m lv w c) (Nt:ig c) (hr:qi w1 C u m lv ls) (hv:c.eu.length <=50000) (Pc:¬ (op=26\/op=27\/op=32\/op=33\/op=34\/op=35\/op=36\/op=40\/op=41\/op=44\/op=45\/op=54\/op=55\/op=58\/op=63\/op=64\/op=65\/op=66)):
  Calls prog 117 #[.pointer (some ⟨C,0,none⟩), .agg #[.int .i64 op, .int .i64 a, .int .i64 b, .slice al nl cl]] w (n5 w1 C u m lv (.tuple #[]) (eX.plain m ls c ⟨op,a,b,l⟩)):=by
 have HN:Hid (eX.plain m ls c ⟨op,a,b,l⟩=((c.need (fh op).2.2).gd (fh op).1).push [(fh op).2.1]):=V (by
  unfold eX.plain;simp only
  repeat (rw [az (by omega)]))
 have f26:(op==26)=false:=eh (by omega);have f27:(op==27)=false:=eh (by omega);have f32:(op==32)=false:=eh (by omega);have f33:(op==33)=false:=eh (by omega);have f34:(op==34)=false:=eh (by omega);have f35:(op==35)=false:=eh (by omega);have f36:(op==36)=false:=eh (by omega);have f40:(op==40)=false:=eh (by omega);have f41:(op==41)=false:=eh (by omega);have f44:(op==44)=false:=eh (by omega);have f45:(op==45)=false:=eh (by omega);have f54:(op==54)=false:=eh (by omega);have f55:(op==55)=false:=eh (by omega);have f58:(op==58)=false:=eh (by omega);have f63:(op==63)=false:=eh (by omega);have f64:(op==64)=false:=eh (by omega);have f65:(op==65)=false:=eh (by omega);have f66:(op==66)=false:=eh (by omega);clear Pc;have hu:=And.intro Nt (And.intro hr hv);clear hu;have Nx:=(an w.heap.size w).alloc (ag _) (.cells #[.int .i64 op, .int .i64 a, .int .i64 b, .slice al nl cl] 39);have hX:=eS.new w #[.int .i64 op, .int .i64 a, .int .i64 b, .slice al nl cl] 39;have No:=(Nx.alloc Nx.size (.cells #[.int .i64 1] 3)).alloc (by rw [aC];exact aQ Nx.size (ee _)) (.cells #[.int .i64 2] 3);have HX:=V ((hX.alloc (.cells #[.int .i64 1] 3)).alloc (.cells #[.int .i64 2] 3));have Nu:=h.lt;have HS:=V (h.below No);have Oj:=V Nt;have y0:=hX.cell 0;have y0':=HX.out.cell 0;have y1:=HX.out.cell 1;simp only [aM,aK,aT]at y0 y0' y1;clear h Nx No hX Nt;go_enter func117,ntmps117;go_wp2_with fail;refine(rO op _ C HS.out.lt.1).mono ?_;rintro e w2 ⟨v,rfl,hl,hb⟩;have HS:=V (HS.out.below hb);have HL:=V hl;have N8:=zV op;clear hl hb y0 y0' y1 f26 f27 f32 f33 f34 f35 f36 f40 f41 f44 f45 f54 f55 f58 f63 f64 f65 f66;go_wp2_with fail;refine(jX w1 C u m lv w2 c (fh op).2.2 HS.out).mono ?_;rintro e w3 ⟨rfl,hs,hk,-⟩;have HS:=V hs;have HL:=V (HL.out.ext (qL hk));clear hs hk;go_wp2_with fail;refine(oZ w1 C u m lv w3 _ v (fh op).1 HS.out (Oj.out.need _) HL.out (by omega)).mono ?_;rintro e w4 ⟨rfl,hs,hk,-⟩;have HS:=V hs;have l1:=eX.mc (c.need (fh op).2.2) (fh op).1;rw [eX.yh]at l1;clear hs hk;have hb:=(an w4.heap.size w4).alloc (ag _) (.cells #[.int .i64 (fh op).2.1] 3);have HL:=V (lJ w4 (fh op).2.1 3 HS.out.lt.1);have HS:=V (HS.out.below hb);clear hb;go_wp2_with fail;refine(my w1 C u m lv _ _ _ [(fh op).2.1] HS.out HL.out (by simp only [aB];omega)).mono ?_;rintro e w9 ⟨rfl,hs⟩;have HS:=V hs;clear hs;go_wp2
 go_end0
 rw [HN.out];exact⟨rfl,HS.out⟩
def fa.mW (x:fa):Prop:=x.op=0\/x.op=2\/x.op=11\/x.op=12\/x.op=16\/x.op=26\/x.op=32\/x.op=65\/x.op=66\/x.op=106
def vN (c c':eX) (op:Int):Prop:=c'.sound/\(c'.fc.length:Int)=iC op c.fc.length/\c'.eu.length <=c.eu.length+10
theorem tG {op d:Int} (h:¬ (op=2\/op=3\/op=4\/op=11)):iC op d=d:=by
 unfold iC ko;rw [az (by omega)];have h2:¬ op=2:=by omega
 have h3:¬ op=3:=by omega
 have h4:¬ op=4:=by omega
 simp [h2,h3,h4]
theorem ot {c d:eX} {l:List Int} {op:Int} (hd:ig d) (hc:d.fc.length=c.fc.length) (hv:d.eu.length <=c.eu.length) (hl:l.length <=10) (ho:¬ (op=2\/op=3\/op=4\/op=11)):vN c (d.push l) op:=
 ⟨(hd.push l).1,by rw [tG ho,eX.vX,hc],by simp only [eX.push,ah];omega⟩
theorem xL {c d:eX} {op:Int} (hd:ig d) (hc:d.fc.length=c.fc.length) (hv:d.eu.length <=c.eu.length) (ho:¬ (op=2\/op=3\/op=4\/op=11)):vN c d op:=
 ⟨hd.1,by rw [tG ho,hc],by omega⟩
theorem xO {c d:eX} {op:Int} (hd:ig d) (hc:d.fc.length=c.fc.length) (hv:d.eu.length <=c.eu.length) (ho:¬ (op=2\/op=3\/op=4\/op=11)):vN c d.dead op:=
 xL hd.dead (by rw [CG hd.2,hc]) (aQ (FN d) hv) ho
theorem C4 {c d:eX} {op k:Int} (hd:ig d) (hc:d.fc.length=c.fc.length) (hv:d.eu.length <=c.eu.length) (ho:op=2\/op=3\/op=4):vN c (d.begin op k) op:=by
 refine⟨(hd.begin op k).1,?_,by simp only [eX.begin];omega⟩;have:iC op (c.fc.length:Int)=c.fc.length+1:=by
  rcases ho with rfl | rfl | rfl <;>rfl
 rw [this];simp [eX.begin,hc]
theorem J5 {m:eI} (PH:m.short) {ls:List Int} {c:eX} (h:ig c) (x:fa) (hx:x.mW):vN c (c.step m ls x) x.op:=by
 unfold eX.step;rcases hx with q | q | q | q | q | q | q | q | q | q
 ·rw [show c.control m x=some c.dead by simp [eX.control,q]]
  exact xO h rfl (ag _) (by omega)
 ·rw [show c.control m x=some (c.begin x.op x.a)by simp [eX.control,q]]
  exact C4 h rfl (ag _) (by omega)
 ·rw [show c.control m x=some ((c.shut.2.need (c.shut.1.op !=4 || c.shut.1.kind==0)).push (gS c.shut.1.kind))by simp [eX.control,q]]
  have hp:=List.length_pos_iff.2 h.2;have hs:=Cv h;refine⟨eX.sound.push ⟨hs.1,hs.2⟩ _,?_,?_⟩
  ·rw [show iC x.op (c.fc.length:Int)=c.fc.length - 1 by rw [q];rfl]
   rw [dM,eX.vX,eX.nB,rm,dx];omega
  ·have:=ss c
   have:=po c.shut.1.kind;simp only [dM,eX.push,eX.yh,ah];omega
 ·rw [show c.control m x=some ((c.label x.a).2.gd (c.label x.a).1).dead by simp [eX.control,q]]
  exact xO ((h.label _).gd _) (by rw [eX.iI,(tQ _ _).1]) (aQ (eX.mc _ _) (by rw [(tQ _ _).2];exact ag _)) (by omega)
 ·rw [show c.control m x=some (c.calls (gM m x.a))by simp [eX.control,q]]
  exact ot ((h.need _).gd _) (by rw [eX.iI];rfl) (eX.mc _ _) (oL PH _).2 (by omega)
 all_goals rw [show c.control m x=none by simp [eX.control,q],Option.getD_none]
 ·rw [show c.plain m ls x=(c.pop 0).2 by simp [eX.plain,q]]
  exact xL (h.pop 0) (by rw [eX.qy]) (eX.DM c 0) (by omega)
 ·rw [show c.plain m ls x=(c.local ls x.a).2.push [(c.local ls x.a).1]by simp [eX.plain,q]]
  exact ot (h.local ls _) (by rw [(pJ _ _ _).1]) (by rw [(pJ _ _ _).2];exact ag _) (by simp) (by omega)
 ·rw [show c.plain m ls x=c.push [1]by simp [eX.plain,q]]
  exact ot h rfl (ag _) (by simp) (by omega)
 ·rw [show c.plain m ls x=c.push [2]by simp [eX.plain,q]]
  exact ot h rfl (ag _) (by simp) (by omega)
 ·rw [show c.plain m ls x=((c.need (fh x.op).2.2).gd (fh x.op).1).push [(fh x.op).2.1]by simp [eX.plain,q]]
  exact ot ((h.need _).gd _) (by rw [eX.iI];rfl) (eX.mc _ _) (by simp) (by omega)
theorem Lg {x:fa} (h:x.may) (hf:fU x.op=3):0 <=x.a/\x.a <=1000:=by
 obtain⟨_,_,h⟩:=h;rw [hf]at h;have h:gh x.a:=by simpa using h
 exact h
theorem tH (w1:World) (C:Nat) (u:eT) (m:eI) (lv:Value) (ls:List Int) (w:World) (c:eX) (x:fa) (al:Option Addr) (nl cl:Nat) (h:gB w1 C u m lv w c) (Nt:ig c) (hr:qi w1 C u m lv ls) (PH:m.short) (hv:c.eu.length <=50000) (hc:c.fc.length <=50000) (hm:x.may) (hx:x.mW):
  Calls prog 116 #[.pointer (some ⟨C,0,none⟩), .agg #[.int .i64 x.op, .int .i64 x.a, .int .i64 x.b, .slice al nl cl]] w (rJ w1 C u m lv x c w):=by
 obtain⟨op,a,b,l⟩:=x;unfold fa.mW at hx;simp only at hx⊢;by_cases q0:op=0
 ·subst q0;exact MA w1 C u m lv ls w c a b al nl cl l h Nt hr PH hv hc
 by_cases q1:op=2
 ·subst q1;exact MH w1 C u m lv ls w c a b al nl cl l h Nt hr PH hv hc
 by_cases q2:op=11
 ·subst q2;exact LD w1 C u m lv ls w c a b al nl cl l h Nt hr PH hv hc
 by_cases q3:op=12
 ·subst q3;exact Ml w1 C u m lv ls w c a b al nl cl l h Nt hr PH hv hc (Lg hm rfl)
 by_cases q4:op=16
 ·subst q4;exact LY w1 C u m lv ls w c a b al nl cl l h Nt hr PH hv hc (Lg hm rfl)
 exact MU w1 C u m lv w c op a b al nl cl l h (by omega)
theorem xF (w1:World) (C:Nat) (u:eT) (m:eI) (lv:Value) (ls:List Int) (w:World) (c:eX) (x:fa) (al:Option Addr) (nl cl:Nat) (h:gB w1 C u m lv w c) (Nt:ig c) (hr:qi w1 C u m lv ls) (hv:c.eu.length <=50000) (hm:x.may) (hx:x.mW):
  Calls prog 117 #[.pointer (some ⟨C,0,none⟩), .agg #[.int .i64 x.op, .int .i64 x.a, .int .i64 x.b, .slice al nl cl]] w (n5 w1 C u m lv (.tuple #[]) (eX.plain m ls c x)):=by
 obtain⟨op,a,b,l⟩:=x;unfold fa.mW at hx;simp only at hx⊢;by_cases q1:op=26
 ·subst q1;exact MS w1 C u m lv ls w c a b al nl cl l h Nt hr hv
 by_cases q2:op=32
 ·subst q2;exact ME w1 C u m lv ls w c a b al nl cl l h Nt hr hv (Lg hm rfl)
 by_cases q5:op=65
 ·subst q5;exact MN w1 C u m lv ls w c a b al nl cl l h Nt hr hv
 by_cases q6:op=66
 ·subst q6;exact MT w1 C u m lv ls w c a b al nl cl l h Nt hr hv
 exact Nd w1 C u m lv ls w c op a b al nl cl l h Nt hr hv (by omega)
theorem C6 {C:Nat} {w w':World} (h:Below w.heap.size w w') (hC:w.heap.size <=C):Ext w (tg C w'):=by
 refine⟨fun a v e=>?_,by unfold tg;rw [iz];exact h.size⟩;have Nu:=aO w a e;have hb:(fun k=>k==C) a.block=false:=by
  have:a.block≠C:=by omega
  simp [this]
 have h2:(mask (fun k=>k==C) w').cell? a=w'.cell? a:=aY (jA w' hb);show(mask (fun k=>k==C) w').cell? a=some v;rw [h2,h.cell Nu];exact e
theorem gB.new {w1:World} {C:Nat} {u:eT} {m:eI} {lv:Value} (h:eS w1 C (uH u m lv (.slice none 0 0) (.slice none 0 0) false) 186):gB w1 C u m lv w1 ⟨[],[],false⟩:=
 ⟨_,_,h,ei.nil _ _,ei.nil _ _,ep.refl _ _,h.lt⟩
def Mu (m:eI) (ls:List Int) (c0:eX) (body:List fa) (c:eX) (i:Nat):Prop:=
 i <=body.length/\eX.run m ls c0 body=eX.run m ls c (body.drop i)/\ig c/\c.eu.length <=10*i/\c.fc.length <=i+1/\∃st PX,gL body (body.drop i) i st=some PX/\st.2.length+1=c.fc.length
theorem Fy (op n:Int):iC op (n+1)=iC op n+1/\iC op n <=n+1:=by
 unfold iC;split
 ·omega
 ·split <;>omega
theorem Bp {m:eI} (PH:m.short) {ls:List Int} {c0:eX} {body:List fa} {c:eX} {i:Nat} {x:fa} (h:Mu m ls c0 body c i) (hx:body[i]?=some x) (he:x.mW):
  ((c.step m ls x).bad=true ->eX.run m ls c0 body=none)/\((c.step m ls x).bad=false ->Mu m ls c0 body (c.step m ls x) (i+1)):=by
 obtain⟨h1,h2,h3,h4,h5,st,PX,h6,h7⟩:=h;obtain⟨hk,rfl⟩:=aG.1 hx;rw [cz hk]at h2 h6;rw [eX.run]at h2;rw [gL]at h6;obtain⟨s1,s2,s3⟩:=J5 PH (ls:=ls) h3 body[i] he;refine⟨fun hb=>by rw [h2,aE hb],fun hb=>?_⟩;rw [az (by rw [hb];simp)]at h2;cases hs:gx body i body[i] st with
 | none=>rw [hs]at h6;cases h6
 | some TB=>
  rw [hs]at h6;simp only [ao]at h6;obtain⟨d0,d1⟩:=qV hs;have hd:=Fy body[i].op st.2.length;rw [<- h7]at s2;rw [show((st.2.length+1:Nat):Int)=(st.2.length:Int)+1 by omega]at s2;refine⟨by omega,h2,⟨s1,?_⟩,by omega,by omega,TB,PX,h6,by omega⟩;intro e;rw [e]at s2;simp only [aH]at s2;omega
def sa (t:gC):eX:=({eu:=[],fc:=[],bad:=false}:eX).begin 2 (t.results.head?.getD 0)
theorem Fb {m:eI} {ls:List Int} {t:gC} {body:List fa} {bs:List kG} (h:fM body=some bs):Mu m ls (sa t) body (sa t) 0/\body.length <=300:=by
 unfold fM at h;split at h
 ·cases h
 ·cases hg:gL body body 0 ([],[])with
  | none=>rw [hg]at h;cases h
  | some st=>exact⟨⟨bg _,rfl,⟨⟨by simp [sa,eX.begin],by simp [sa,eX.begin]⟩,by simp [sa,eX.begin]⟩,by simp [sa,eX.begin],by simp [sa,eX.begin],([],[]),st,hg,by simp [sa,eX.begin]⟩,by omega⟩
theorem ow (m:eI) (u:eT) (k:Int) (w:World) (hm:eG w u m) (PH:m.short) (hx:∀c∈m.eF,c.locals.length <=100000/\∀x∈c.body,x.may/\x.mW):Calls prog 79 #[.agg (u.cells m), .int .i64 k] w (eL (gb m k) w):=by
 have HI:=V hm;have TJ:=V PH;have TN:=V hx;obtain⟨a0,c0,a1,c1,a2,c2,a3,c3,a4,c4,a5,c5,a6,c6,a7,c7,rfl⟩:=eG.open hm;simp only [eT.cells];clear hm PH hx;have NG:=(an w.heap.size w).alloc (ag _) (.cells #[.slice a0 m.types.length c0, .slice a1 m.imports.length c1, .slice a2 m.funcs.length c2, .bool m.table.has, .int .i64 m.table.min, .int .i64 m.table.max, .bool m.mem.has, .int .i64 m.mem.min, .int .i64 m.mem.max, .slice a3 m.globals.length c3, .slice a4 m.ey.length c4, .slice a5 m.elems.length c5, .slice a6 m.eF.length c6, .slice a7 m.eP.length c7] 35);have HB:=V (NG.alloc (by rw [aC];omega) (.cells #[.slice a0 m.types.length c0, .slice a1 m.imports.length c1, .slice a2 m.funcs.length c2, .bool m.table.has, .int .i64 m.table.min, .int .i64 m.table.max, .bool m.mem.has, .int .i64 m.mem.min, .int .i64 m.mem.max, .slice a3 m.globals.length c3, .slice a4 m.ey.length c4, .slice a5 m.elems.length c5, .slice a6 m.eF.length c6, .slice a7 m.eP.length c7, .slice none 0 0, .slice none 0 0, .slice none 0 0, .bool false] 186));clear NG;by_cases q1:k < 0
 ·have f1:decide (k < 0)=true:=ay q1
  have HF:Hid (gb m k=false):=V (by unfold gb;rw [if_pos (.inl q1)]);clear q1 HI;go_enter func79,ntmps79;go_wp2;go_ret;exact⟨by rw [HF.out];rfl,HB.out⟩
 obtain⟨k,rfl⟩:∃n:Nat,k=n:=⟨k.toNat,by omega⟩;have f1:decide ((k:Int) < 0)=false:=aw q1;by_cases q2:k < m.eF.length;rotate_left
 ·have f2:decide ((m.eF.length:Int) <=(k:Int))=true:=ay (by omega)
  have f3:decide (m.eF.length <=k)=true:=ay (by omega);have HF:Hid (gb m k=false):=V (by unfold gb;rw [if_pos (.inr (.inl (by omega)))]);clear q1 HI;go_enter func79,ntmps79;go_wp2;go_ret;exact⟨by rw [HF.out];rfl,HB.out⟩
 have f2:decide ((m.eF.length:Int) <=(k:Int))=false:=aw (by omega);have f3:decide (m.eF.length <=k)=false:=aw (by omega);by_cases q3:k < m.funcs.length;rotate_left
 ·have f4:decide ((m.funcs.length:Int) <=(k:Int))=true:=ay (by omega)
  have f5:decide (m.funcs.length <=k)=true:=ay (by omega);have HF:Hid (gb m k=false):=V (by unfold gb;rw [if_pos (.inr (.inr (by omega)))]);clear q1 HI;go_enter func79,ntmps79;go_wp2;go_ret;exact⟨by rw [HF.out];rfl,HB.out⟩
 have f4:decide ((m.funcs.length:Int) <=(k:Int))=false:=aw (by omega);have f5:decide (m.funcs.length <=k)=false:=aw (by omega);obtain⟨code,SO⟩:∃x,m.eF[k]?=some x:=⟨_,aq q2⟩;obtain⟨ft,hft⟩:∃x,m.funcs[k]?=some x:=⟨_,aq q3⟩;have HLL:=V (TN.out code (aN SO)).1;have TN:=V (TN.out code (aN SO)).2;have HF:=V (show gb m k=(if(typeOf m ft).2=false\/(fM code.body).isSome=false then false
  else match eX.run m ((typeOf m ft).1.params++code.locals) (sa (typeOf m ft).1) code.body with
   | none=>false
   | some c=> !c.shut.2.bad&&decide (((typeOf m ft).1.params++code.locals).length <=32))by
  unfold gb sa;rw [az (by omega),cG,SO,hft];rfl)
 obtain⟨_,_,hv,_,_,Nk⟩:=HI.out.2.2.1;injection hv with e1 e2 e3;subst e1;obtain⟨b,off,rfl,-,NA⟩:=Nk k ft hft;have y0:=(Ext.et HB.out).1 _ _ (NA 0 _ rfl);rw [aJ,aW]at y0;clear e2 e3 Nk NA hft;have NM:=V ((eS.new w #[.slice a0 m.types.length c0, .slice a1 m.imports.length c1, .slice (some ⟨b,off,none⟩) m.funcs.length c2, .bool m.table.has, .int .i64 m.table.min, .int .i64 m.table.max, .bool m.mem.has, .int .i64 m.mem.min, .int .i64 m.mem.max, .slice a3 m.globals.length c3, .slice a4 m.ey.length c4, .slice a5 m.elems.length c5, .slice a6 m.eF.length c6, .slice a7 m.eP.length c7] 35).alloc (.cells #[.slice a0 m.types.length c0, .slice a1 m.imports.length c1, .slice (some ⟨b,off,none⟩) m.funcs.length c2, .bool m.table.has, .int .i64 m.table.min, .int .i64 m.table.max, .bool m.mem.has, .int .i64 m.mem.min, .int .i64 m.mem.max, .slice a3 m.globals.length c3, .slice a4 m.ey.length c4, .slice a5 m.elems.length c5, .slice a6 m.eF.length c6, .slice a7 m.eP.length c7, .slice none 0 0, .slice none 0 0, .slice none 0 0, .bool false] 186));have HCB0:=eS.new (w.alloc (.cells #[.slice a0 m.types.length c0, .slice a1 m.imports.length c1, .slice (some ⟨b,off,none⟩) m.funcs.length c2, .bool m.table.has, .int .i64 m.table.min, .int .i64 m.table.max, .bool m.mem.has, .int .i64 m.mem.min, .int .i64 m.mem.max, .slice a3 m.globals.length c3, .slice a4 m.ey.length c4, .slice a5 m.elems.length c5, .slice a6 m.eF.length c6, .slice a7 m.eP.length c7] 35)) #[.slice a0 m.types.length c0, .slice a1 m.imports.length c1, .slice (some ⟨b,off,none⟩) m.funcs.length c2, .bool m.table.has, .int .i64 m.table.min, .int .i64 m.table.max, .bool m.mem.has, .int .i64 m.mem.min, .int .i64 m.mem.max, .slice a3 m.globals.length c3, .slice a4 m.ey.length c4, .slice a5 m.elems.length c5, .slice a6 m.eF.length c6, .slice a7 m.eP.length c7, .slice none 0 0, .slice none 0 0, .slice none 0 0, .bool false] 186;rw [aC]at HCB0;have Rj:=V HCB0;clear HCB0;go_enter func79,ntmps79;go_wp2_with fail;obtain⟨wA,RO⟩:∃wA,wA=(w.alloc (.cells #[.slice a0 m.types.length c0, .slice a1 m.imports.length c1, .slice (some ⟨b,off,none⟩) m.funcs.length c2, .bool m.table.has, .int .i64 m.table.min, .int .i64 m.table.max, .bool m.mem.has, .int .i64 m.mem.min, .int .i64 m.mem.max, .slice a3 m.globals.length c3, .slice a4 m.ey.length c4, .slice a5 m.elems.length c5, .slice a6 m.eF.length c6, .slice a7 m.eP.length c7] 35)).alloc (.cells #[.slice a0 m.types.length c0, .slice a1 m.imports.length c1, .slice (some ⟨b,off,none⟩) m.funcs.length c2, .bool m.table.has, .int .i64 m.table.min, .int .i64 m.table.max, .bool m.mem.has, .int .i64 m.mem.min, .int .i64 m.mem.max, .slice a3 m.globals.length c3, .slice a4 m.ey.length c4, .slice a5 m.elems.length c5, .slice a6 m.eF.length c6, .slice a7 m.eP.length c7, .slice none 0 0, .slice none 0 0, .slice none 0 0, .bool false] 186):=⟨_,rfl⟩;rw [<- RO]at HB NM Rj⊢;have hAS:wA.heap.size=w.heap.size+2:=by rw [RO];simp
 clear RO y0;have HS:=V (gB.new (u:=⟨.slice a0 m.types.length c0, .slice a1 m.imports.length c1, .slice (some ⟨b,off,none⟩) m.funcs.length c2, .slice a3 m.globals.length c3, .slice a4 m.ey.length c4, .slice a5 m.elems.length c5, .slice a6 m.eF.length c6, .slice a7 m.eP.length c7⟩) (m:=m) (lv:= .slice none 0 0) Rj.out);have Oe:=V (show qi wA (w.heap.size+1) ⟨.slice a0 m.types.length c0, .slice a1 m.imports.length c1, .slice (some ⟨b,off,none⟩) m.funcs.length c2, .slice a3 m.globals.length c3, .slice a4 m.ey.length c4, .slice a5 m.elems.length c5, .slice a6 m.eF.length c6, .slice a7 m.eP.length c7⟩ m (.slice none 0 0) []from⟨HI.out.ext (C6 HB.out (by omega)),eA.nil _⟩);refine(oW wA (w.heap.size+1) _ m _ [] wA _ ft HS.out Oe.out).mono ?_;rintro e w2 ⟨v1,v2,rfl,Qb,OI,hb⟩;have hsh:=sE TJ.out ft;obtain⟨T,hT⟩:∃T,typeOf m ft=T:=⟨_,rfl⟩;rw [hT]at HF Qb OI hsh⊢;clear hT;obtain⟨⟨ps,rs⟩,ok⟩:=T;simp only at HF Qb OI hsh⊢;obtain⟨b1,k1,rfl,P1,-,-⟩:=id Qb;obtain⟨b2,k2,rfl,Nw,-,-⟩:=id OI;have HV1:=V Qb;have Ql:=V OI;have HSH:=V hsh;have No:=(an w2.heap.size w2).alloc (ag _) (.cells #[.slice b1 ps.length k1, .slice b2 rs.length k2] 69);have Qp:=hb.size;have hb:=hb.trans (No.mono hb.size);have Rz:=V (eS.new w2 #[.slice b1 ps.length k1, .slice b2 rs.length k2] 69);have NM:=V (NM.out.below hb NM.out.lt);have Rj:=V (Rj.out.below hb Rj.out.lt);have HB:=V (HB.out.trans (hb.mono HB.out.size));have Tn:=V hb;have hT2:w.heap.size+2 <=w2.heap.size:=by omega
 clear Qb OI hsh hb No;obtain⟨bc,RA,⟨va,vb⟩,rfl,-,NA,N6⟩:=eD.get HI.out.2.2.2.2.2.2.1 SO;have y0:=(Ext.et HB.out).1 _ _ (NA 0 _ rfl);have y1:=(Ext.et HB.out).1 _ _ (NA 1 _ rfl);rw [aJ]at y0;have y2:=NM.out.mod.2.2.2.2.2.2.2.2.2.2.2.2.1;have NF:=V N6;clear NA N6;go_wp2_with fail;refine(qJ _ code.body _ (gN.below NF.out.1.2 HB.out)).mono ?_;rintro e w3 ⟨hb,hmt⟩;have Rz:=V (Rz.out.below hb Rz.out.lt);have NM:=V (NM.out.below hb NM.out.lt);have Rj:=V (Rj.out.below hb Rj.out.lt);have HB:=V (HB.out.trans (hb.mono HB.out.size));have Tn:=V (Tn.out.trans (hb.mono Tn.out.size));clear y0 y1 y2;have Qq:w2.heap.size < w3.heap.size:=Rz.out.lt;rcases hmt with⟨bs,bv,So,rfl,-⟩ | ⟨So,rfl⟩;rotate_left
 ·have HF2:=V (HF.out.trans (aE (.inr (by rw [So];rfl))))
  clear So hb;cases ok
  ·go_wp2
   go_ret;exact⟨by rw [HF2.out];rfl,HB.out⟩
  ·go_wp2
   go_ret;exact⟨by rw [HF2.out];rfl,HB.out⟩
 cases ok
 ·have HF:=V (HF.out.trans (aE (.inl rfl)))
  clear So hb;go_wp2;go_ret;exact⟨by rw [HF.out];rfl,HB.out⟩
 have HF:=V (HF.out.trans (az (by rw [So];simp)));have HJ0:=V (fun ls=>Fb (m:=m) (ls:=ls) (t:=⟨ps,rs⟩) So);clear So hb;have hml:m.eF.length <=9223372036854775807:=by
  obtain⟨_,_,_,h1,h2⟩:=eD.slice HI.out.2.2.2.2.2.2.1;omega
 obtain⟨bc',offc',⟨va',vb'⟩,QU,-,NA,N6⟩:=eD.get HI.out.2.2.2.2.2.2.1 SO;injection QU with QU;injection QU with hab1 hab2;subst hab1 hab2;have NF:=V N6;have y0:=(Ext.et HB.out.drew).1 _ _ (NA 0 _ rfl);have y1:=NA 1 _ rfl;rw [aJ]at y0;have Y1:=V y1;have Y0:=V (NA 0 _ rfl);clear NA N6 y1;have y2:=NM.out.drew.mod.2.2.2.2.2.2.2.2.2.2.2.2.1;have y3:=Rz.out.drew.two.1;have y4:w3.drew.cell? ⟨w.heap.size+1,14,none⟩=some (.slice none 0 0):=Rj.out.drew.cell 14;go_wp2_with fail;refine eY (fun w'=>w'.cell? ⟨w.heap.size+1,14,none⟩=some (.slice none 0 0)/\w'.cell? ⟨w2.heap.size,0,none⟩=some (.slice b1 ps.length k1)/\w'.cell? ⟨w.heap.size,12,none⟩=some (.slice (some ⟨bc,RA,none⟩) m.eF.length c6)/\w'.cell? ⟨bc,RA+k*2,none⟩=some va') 17 (up 0 7 (up 8 6 ((7,false)::(14,false)::(15,true)::(16,true)::[]))) (by kernel_rfl) (by kernel_rfl) ⟨y4,y3,y2,y0⟩ ?_;clear y0 y2 y3 y4;have HB:=V HB.out.drew;have Tn:=V Tn.out.drew;have NM:=V NM.out.drew;have Rz:=V Rz.out.drew;have Rj:=V Rj.out.drew;have hsz4:w2.heap.size < w3.drew.heap.size:=Qq;clear Qq;generalize w3.drew=w4 at HB Tn NM Rz Rj hsz4⊢;iterate 13 (first | (apply sk rfl rfl;simp only [pt]) | (apply eo rfl rfl rfl;·(rintro w' ⟨t0,t1,t2,t3⟩;go_wp2;exact⟨rfl,rfl,rfl⟩)))
 refine ew rfl rfl ?_;go_wp2_with (first | (at_builtin;refine mw w4 rfl _ _ rfl rfl w4.heap.size (.slice none 0 0) [] rfl (ei.nil _ _) (.slice b1 ps.length k1) ps rfl (HV1.out.ext ((ye Tn.out).trans (AO _ _))) (by have:=HSH.out.1;simp only [aH];omega) (ag _) ?_));intro v5 w5 ho5 Pr RL;have N7:Below w4.heap.size w4 w5:=Pr.below (ag _) (fun i hi=>by simp [eO,Value.ownBlock]at hi);have Tn:=V (Tn.out.trans (N7.mono Tn.out.size));have HB:=V (HB.out.trans (N7.mono HB.out.size));have NM:=V (NM.out.below N7 NM.out.lt);have Rz:=V (Rz.out.below N7 Rz.out.lt);have Rj:=V (Rj.out.below N7 Rj.out.lt);have H45:=V N7;have HO5:=V (show ei 3 1 fk w5 w4.heap.size v5 ps from ho5);clear ho5 Pr RL N7;go_wp2_with fail;refine⟨⟨Rj.out.cell 14,Rz.out.two.1,NM.out.mod.2.2.2.2.2.2.2.2.2.2.2.2.1,(Ext.et HB.out).1 _ _ Y0.out⟩,?_⟩;refine ew rfl rfl ?_;go_wp2_with (first | (at_builtin;refine mw w5 rfl _ _ rfl rfl w4.heap.size v5 ps rfl HO5.out va' code.locals rfl (NF.out.1.1.ext (Ext.et HB.out)) (by have:=HSH.out.1;have:=HLL.out;omega) H45.out.size ?_));intro v6 w6 ho6 QY hs6;have Pp:Below w4.heap.size w5 w6:=QY.below H45.out.size (fun i hi=>(eM HO5.out hi).1);have Tn:=V (Tn.out.trans (Pp.mono (by have:=Tn.out.size;omega)));have HB:=V (HB.out.trans (Pp.mono (by omega)));have NM:=V (NM.out.below Pp (by omega));have Rz:=V (Rz.out.below Pp (by omega));have Rj:=V (Rj.out.below Pp (by omega));obtain⟨ls,hls⟩:∃ls,ps++code.locals=ls:=⟨_,rfl⟩;rw [hls]at ho6 HF;clear hls;obtain⟨av,cw,rfl,-,-⟩:=ho6.slice;have HO6:=V ho6;clear ho6 QY hs6 Pp;go_wp2_with fail;refine⟨⟨Rj.out.cell 14,Rz.out.two.1,NM.out.mod.2.2.2.2.2.2.2.2.2.2.2.2.1,(Ext.et HB.out).1 _ _ Y0.out⟩,?_⟩;iterate 2 (first | (apply sk rfl rfl;simp only [pt]) | (apply eo rfl rfl rfl;·(rintro w' ⟨t0,t1,t2,t3⟩;go_wp2;exact⟨rfl,rfl,rfl⟩)))
 refine fJ rfl rfl ?_;have c14:w6.cell? ⟨w.heap.size+1,14,none⟩=some (.slice none 0 0):=Rj.out.cell 14;have z14:=Rj.out.free 14;go_wp2;refine⟨trivial,?_⟩;refine aA ?_;have Np:=eE w6 (w.heap.size+1) 14 (.slice av ls.length cw);have Oe:=V (show qi _ (w.heap.size+1) ⟨.slice a0 m.types.length c0, .slice a1 m.imports.length c1, .slice (some ⟨b,off,none⟩) m.funcs.length c2, .slice a3 m.globals.length c3, .slice a4 m.ey.length c4, .slice a5 m.elems.length c5, .slice (some ⟨bc,RA,none⟩) m.eF.length c6, .slice a7 m.eP.length c7⟩ m (.slice av ls.length cw) ls from⟨(HI.out.ext (C6 HB.out (by omega))).ext (qL Np),(DN fI HO6.out (by omega)).ext (qL Np)⟩);have NM:=V (NM.out.keeps Np (by omega));have Rz:=V (Rz.out.keeps Np (by omega));have HB:=V (HB.out.trans (Np.below HB.out.size (fun i hi=>by omega)));have Ql:=V ((Ql.out.ext (ye Tn.out)).ext (uI Np));have HS:=V (gB.new (u:=⟨.slice a0 m.types.length c0, .slice a1 m.imports.length c1, .slice (some ⟨b,off,none⟩) m.funcs.length c2, .slice a3 m.globals.length c3, .slice a4 m.ey.length c4, .slice a5 m.elems.length c5, .slice (some ⟨bc,RA,none⟩) m.eF.length c6, .slice a7 m.eP.length c7⟩) (m:=m) (lv:= .slice av ls.length cw) (Rj.out.set 14 (.slice av ls.length cw)));clear c14 z14 Np;generalize w6.setCell ⟨w.heap.size+1,14,none⟩ (.slice av ls.length cw)=w7 at Oe NM Rz HB Ql HS⊢;clear Rj HO5 HO6 H45 Tn HSH HLL HV1 hsz4;have y3:=Rz.out.two.2.1;obtain⟨ab,cb,rfl,Ob,RU⟩:=eD.slice NF.out.1.2;obtain⟨k0,RE⟩:∃k0,rs.head?.getD 0=k0:=⟨_,rfl⟩;have HC0:=V (show sa ⟨ps,rs⟩=(⟨[],[],false⟩:eX).begin 2 k0 by unfold sa;rw [RE]);obtain⟨Rv,hb300⟩:=HJ0.out ls;have Rv:=V Rv;have HEX:=V (C6 (C:=w.heap.size+1) HB.out (by omega));have HNB:=V (NF.out.1.2.ext HEX.out);clear HJ0 NF;have f8:(0:Int) <=(rs.length:Int):=by omega
 by_cases q:rs.length=0
 ·have f6:decide ((0:Int) < (rs.length:Int))=false:=aw (by omega)
  have f7:decide (0 < rs.length)=false:=aw (by omega);have P1:0=k0:=by rw [aI q]at RE;exact RE
  subst P1;clear f8 q RE;go_wp2_with fail;refine(wP w7 (w.heap.size+1) _ m _ w7 _ 2 0 HS.out (by simp)).mono ?_;rintro e w8 ⟨rfl,hs⟩;rw [<- HC0.out]at hs;have hold:=hs.old;have NM:=V (NM.out.keeps hold (by omega));have HS:=V hs;have y2:=NM.out.mod.2.2.2.2.2.2.2.2.2.2.2.2.1;have y5:=hs.ext'.1 _ _ (HEX.out.1 _ _ Y1.out);clear hs y3 hold;go_wp2_with fail;clear y2 y5;refine eR (fun a' w'=>∃(c:eX) (i:Nat),a'=fr (gs a' 0 2 (.pointer (some ⟨w.heap.size,0,none⟩)::gs a' 3 2 (.pointer (some ⟨w.heap.size+1,0,none⟩)::gs a' 6 85 (.slice ab code.body.length cb:: .int .i64 code.body.length:: .int .i64 i::gs a' 94 30 []))))/\Mu m ls (sa ⟨ps,rs⟩) code.body c i/\gB w7 (w.heap.size+1) ⟨.slice a0 m.types.length c0, .slice a1 m.imports.length c1, .slice (some ⟨b,off,none⟩) m.funcs.length c2, .slice a3 m.globals.length c3, .slice a4 m.ey.length c4, .slice a5 m.elems.length c5, .slice (some ⟨bc,RA,none⟩) m.eF.length c6, .slice a7 m.eP.length c7⟩ m (.slice av ls.length cw) w' c) (fun a' _=>(code.body.length - (intOf (a'.tmps.getD 93 undef)).toNat)) ?_ ?_
  ·exact⟨_,0,rfl,Rv.out,HS.out⟩
  ·skip
   rintro R a' w1 ⟨c,i,Nm,hJ⟩ HR;dsimp only [fr,gs]at Nm;generalize slot a'=f at Nm;subst Nm;obtain⟨To,hs⟩:=hJ;have Rv:=V To;have HS:=V hs;obtain⟨hi1,Nz,Nt,PY,Sx,-⟩:=To;have Oj:=V Nt;have hold:=hs.old;have Pm:=V (HB.out.trans (hold.below HB.out.size (fun i hi=>by omega)));clear hold Nt;by_cases q:i < code.body.length;rotate_left
   ·obtain rfl:i=code.body.length:=by omega
    rw [List.drop_length,eX.run]at Nz;have HF:=V (show gb m k=(!c.shut.2.bad&&decide (ls.length <=32))by rw [HF.out,Nz]);clear Nz hs;go_wp2_with fail;refine(vI w7 (w.heap.size+1) _ m _ w1 c HS.out Oj.out).mono ?_;rintro e w10 ⟨rfl,NC,Nw⟩;have Pm:=V (Pm.out.trans (Nw.below Pm.out.size (fun i hi=>by omega)));obtain⟨-,-,-,-,-,-,c14,c17,-⟩:=NC.cell;obtain⟨bd,PD⟩:∃bd,c.shut.2.bad=bd:=⟨_,rfl⟩;rw [PD]at c17 HF;clear NC Nw PD;cases bd
    ·by_cases q32:ls.length <=32
     ·have g1:decide ((ls.length:Int) <=32)=true:=ay (by omega)
      have g2:decide (ls.length <=32)=true:=ay q32;rw [g2]at HF;clear q32;go_wp2;go_ret;exact⟨by rw [HF.out];rfl,Pm.out⟩
     ·have g1:decide ((ls.length:Int) <=32)=false:=aw (by omega)
      have g2:decide (ls.length <=32)=false:=aw q32;rw [g2]at HF;clear q32;go_wp2;go_ret;exact⟨by rw [HF.out];rfl,Pm.out⟩
    ·go_wp2
     go_ret;exact⟨by rw [HF.out];rfl,Pm.out⟩
   obtain⟨x,hx⟩:∃x,code.body[i]?=some x:=⟨_,aq q⟩;obtain⟨OJ,Rk⟩:=TN.out x (aN hx);have Nn:=V (Bp TJ.out Rv.out hx Rk);obtain⟨bb,ob,un,rfl,-,hc,hu⟩:=eD.get HNB.out hx;obtain⟨⟨au,Ns,rfl,-,-,-⟩,-⟩:=id hu;have y0:=hs.ext'.1 _ _ (hc 0 _ rfl);have y1:=hs.ext'.1 _ _ (hc 1 _ rfl);have y2:=hs.ext'.1 _ _ (hc 2 _ rfl);have y3:=hs.ext'.1 _ _ (hc 3 _ rfl);rw [aJ]at y0;obtain⟨op,xa,xb,xl⟩:=x;have O6:=V OJ;have SP:=V Rk;have HX:=V (eS.new w1 #[.int .i64 op, .int .i64 xa, .int .i64 xb, .slice au xl.length Ns] 39);have hC1:w.heap.size+1 < w1.heap.size:=hs.lt.1;clear hc hu OJ Rk hx Nz hs Rv;go_wp2_with fail;refine(tH w7 (w.heap.size+1) _ m _ ls _ c ⟨op,xa,xb,xl⟩ au xl.length Ns (HS.out.alloc _) Oj.out Oe.out TJ.out (by omega) (by omega) O6.out SP.out).mono ?_;rintro e w10 (⟨c',OL,rfl,NC⟩ | ⟨OL,rfl,NC,Nw⟩)
   ·have O0:c.step m ls ⟨op,xa,xb,xl⟩=c':=by unfold eX.step;rw [OL];rfl
    rw [O0]at Nn;clear OL O0 y0 y1 y2 y3 hC1;have hold:=NC.old;have Pm:=V (HB.out.trans (hold.below HB.out.size (fun i hi=>by omega)));have HS:=V NC;have c17:=NC.cell.2.2.2.2.2.2.2.1;obtain⟨bd,PD⟩:∃bd,c'.bad=bd:=⟨_,rfl⟩;rw [PD]at c17 Nn;clear NC hold PD;cases bd
    ·have Rv:=V (Nn.out.2 rfl)
     clear Nn HX;go_wp2;refine HR.out _ _ ⟨_,i+1,rfl,Rv.out,HS.out⟩ ?_;simp [intOf];omega
    ·have hF:=HF.out
     rw [Nn.out.1 rfl]at hF;have HF:=V hF;clear hF;go_wp2;go_ret;exact⟨by rw [HF.out];rfl,Pm.out⟩
   ·have O0:c.step m ls ⟨op,xa,xb,xl⟩=c.plain m ls ⟨op,xa,xb,xl⟩:=by unfold eX.step;rw [OL];rfl
    rw [O0]at Nn;clear OL O0 y0 y1 y2 y3;have HX:=V (HX.out.keeps Nw (by omega));have HS:=V NC;have y0:=HX.out.cell 0;have y1:=HX.out.cell 1;have y2:=HX.out.cell 2;have y3:=HX.out.cell 3;simp only [aM,aK,aT]at y0 y1 y2 y3;clear NC Nw hC1;go_wp2_with fail;refine(xF w7 (w.heap.size+1) _ m _ ls _ c ⟨op,xa,xb,xl⟩ au xl.length Ns HS.out Oj.out Oe.out (by omega) O6.out SP.out).mono ?_;rintro e Ry ⟨rfl,NC⟩;clear y0 y1 y2 y3;obtain⟨c',OL⟩:∃c',c.plain m ls ⟨op,xa,xb,xl⟩=c':=⟨_,rfl⟩;rw [OL]at NC Nn;clear OL;have hold:=NC.old;have Pm:=V (HB.out.trans (hold.below HB.out.size (fun i hi=>by omega)));have HS:=V NC;have c17:=NC.cell.2.2.2.2.2.2.2.1;obtain⟨bd,PD⟩:∃bd,c'.bad=bd:=⟨_,rfl⟩;rw [PD]at c17 Nn;clear NC hold PD;cases bd
    ·have Rv:=V (Nn.out.2 rfl)
     clear Nn HX;go_wp2;refine HR.out _ _ ⟨_,i+1,rfl,Rv.out,HS.out⟩ ?_;simp [intOf];omega
    ·have hF:=HF.out
     rw [Nn.out.1 rfl]at hF;have HF:=V hF;clear hF;go_wp2;go_ret;exact⟨by rw [HF.out];rfl,Pm.out⟩
 ·have f6:decide ((0:Int) < (rs.length:Int))=true:=ay (by omega)
  have f7:decide (0 < rs.length)=true:=ay (by omega);have f9:0 < rs.length:=by omega
  have hr0:rs[0]?=some k0:=by
   rw [List.head?_eq_getElem?]at RE;rw [<- RE,aq f9];rfl
  obtain⟨_,_,hv,_,_,Nk⟩:=Ql.out;injection hv with e1 e2 e3;subst e1;have HMB9:=NM;have HB9:=HB;obtain⟨br,offr,rfl,-,NA⟩:=Nk 0 k0 hr0;have y6:=NA 0 _ rfl;rw [aJ]at y6;have NM:=HMB9;have HB:=HB9;clear e2 e3 Nk NA hr0 f8 q RE;go_wp2_with fail;refine(wP w7 (w.heap.size+1) _ m _ w7 _ 2 k0 HS.out (by simp)).mono ?_;rintro e w8 ⟨rfl,hs⟩;rw [<- HC0.out]at hs;have hold:=hs.old;have NM:=V (NM.out.keeps hold (by omega));have HS:=V hs;have y2:=NM.out.mod.2.2.2.2.2.2.2.2.2.2.2.2.1;have y5:=hs.ext'.1 _ _ (HEX.out.1 _ _ Y1.out);clear hs y3 hold;go_wp2_with fail;clear y2 y5;refine eR (fun a' w'=>∃(c:eX) (i:Nat),a'=fr (gs a' 0 2 (.pointer (some ⟨w.heap.size,0,none⟩)::gs a' 3 2 (.pointer (some ⟨w.heap.size+1,0,none⟩)::gs a' 6 85 (.slice ab code.body.length cb:: .int .i64 code.body.length:: .int .i64 i::gs a' 94 30 []))))/\Mu m ls (sa ⟨ps,rs⟩) code.body c i/\gB w7 (w.heap.size+1) ⟨.slice a0 m.types.length c0, .slice a1 m.imports.length c1, .slice (some ⟨b,off,none⟩) m.funcs.length c2, .slice a3 m.globals.length c3, .slice a4 m.ey.length c4, .slice a5 m.elems.length c5, .slice (some ⟨bc,RA,none⟩) m.eF.length c6, .slice a7 m.eP.length c7⟩ m (.slice av ls.length cw) w' c) (fun a' _=>(code.body.length - (intOf (a'.tmps.getD 93 undef)).toNat)) ?_ ?_
  ·exact⟨_,0,rfl,Rv.out,HS.out⟩
  ·skip
   rintro R a' w1 ⟨c,i,Nm,hJ⟩ HR;dsimp only [fr,gs]at Nm;generalize slot a'=f at Nm;subst Nm;obtain⟨To,hs⟩:=hJ;have Rv:=V To;have HS:=V hs;obtain⟨hi1,Nz,Nt,PY,Sx,-⟩:=To;have Oj:=V Nt;have hold:=hs.old;have Pm:=V (HB.out.trans (hold.below HB.out.size (fun i hi=>by omega)));clear hold Nt;by_cases q:i < code.body.length;rotate_left
   ·obtain rfl:i=code.body.length:=by omega
    rw [List.drop_length,eX.run]at Nz;have HF:=V (show gb m k=(!c.shut.2.bad&&decide (ls.length <=32))by rw [HF.out,Nz]);clear Nz hs;go_wp2_with fail;refine(vI w7 (w.heap.size+1) _ m _ w1 c HS.out Oj.out).mono ?_;rintro e w10 ⟨rfl,NC,Nw⟩;have Pm:=V (Pm.out.trans (Nw.below Pm.out.size (fun i hi=>by omega)));obtain⟨-,-,-,-,-,-,c14,c17,-⟩:=NC.cell;obtain⟨bd,PD⟩:∃bd,c.shut.2.bad=bd:=⟨_,rfl⟩;rw [PD]at c17 HF;clear NC Nw PD;cases bd
    ·by_cases q32:ls.length <=32
     ·have g1:decide ((ls.length:Int) <=32)=true:=ay (by omega)
      have g2:decide (ls.length <=32)=true:=ay q32;rw [g2]at HF;clear q32;go_wp2;go_ret;exact⟨by rw [HF.out];rfl,Pm.out⟩
     ·have g1:decide ((ls.length:Int) <=32)=false:=aw (by omega)
      have g2:decide (ls.length <=32)=false:=aw q32;rw [g2]at HF;clear q32;go_wp2;go_ret;exact⟨by rw [HF.out];rfl,Pm.out⟩
    ·go_wp2
     go_ret;exact⟨by rw [HF.out];rfl,Pm.out⟩
   obtain⟨x,hx⟩:∃x,code.body[i]?=some x:=⟨_,aq q⟩;obtain⟨OJ,Rk⟩:=TN.out x (aN hx);have Nn:=V (Bp TJ.out Rv.out hx Rk);obtain⟨bb,ob,un,rfl,-,hc,hu⟩:=eD.get HNB.out hx;obtain⟨⟨au,Ns,rfl,-,-,-⟩,-⟩:=id hu;have y0:=hs.ext'.1 _ _ (hc 0 _ rfl);have y1:=hs.ext'.1 _ _ (hc 1 _ rfl);have y2:=hs.ext'.1 _ _ (hc 2 _ rfl);have y3:=hs.ext'.1 _ _ (hc 3 _ rfl);rw [aJ]at y0;obtain⟨op,xa,xb,xl⟩:=x;have O6:=V OJ;have SP:=V Rk;have HX:=V (eS.new w1 #[.int .i64 op, .int .i64 xa, .int .i64 xb, .slice au xl.length Ns] 39);have hC1:w.heap.size+1 < w1.heap.size:=hs.lt.1;clear hc hu OJ Rk hx Nz hs Rv;go_wp2_with fail;refine(tH w7 (w.heap.size+1) _ m _ ls _ c ⟨op,xa,xb,xl⟩ au xl.length Ns (HS.out.alloc _) Oj.out Oe.out TJ.out (by omega) (by omega) O6.out SP.out).mono ?_;rintro e w10 (⟨c',OL,rfl,NC⟩ | ⟨OL,rfl,NC,Nw⟩)
   ·have O0:c.step m ls ⟨op,xa,xb,xl⟩=c':=by unfold eX.step;rw [OL];rfl
    rw [O0]at Nn;clear OL O0 y0 y1 y2 y3 hC1;have hold:=NC.old;have Pm:=V (HB.out.trans (hold.below HB.out.size (fun i hi=>by omega)));have HS:=V NC;have c17:=NC.cell.2.2.2.2.2.2.2.1;obtain⟨bd,PD⟩:∃bd,c'.bad=bd:=⟨_,rfl⟩;rw [PD]at c17 Nn;clear NC hold PD;cases bd
    ·have Rv:=V (Nn.out.2 rfl)
     clear Nn HX;go_wp2;refine HR.out _ _ ⟨_,i+1,rfl,Rv.out,HS.out⟩ ?_;simp [intOf];omega
    ·have hF:=HF.out
     rw [Nn.out.1 rfl]at hF;have HF:=V hF;clear hF;go_wp2;go_ret;exact⟨by rw [HF.out];rfl,Pm.out⟩
   ·have O0:c.step m ls ⟨op,xa,xb,xl⟩=c.plain m ls ⟨op,xa,xb,xl⟩:=by unfold eX.step;rw [OL];rfl
    rw [O0]at Nn;clear OL O0 y0 y1 y2 y3;have HX:=V (HX.out.keeps Nw (by omega));have HS:=V NC;have y0:=HX.out.cell 0;have y1:=HX.out.cell 1;have y2:=HX.out.cell 2;have y3:=HX.out.cell 3;simp only [aM,aK,aT]at y0 y1 y2 y3;clear NC Nw hC1;go_wp2_with fail;refine(xF w7 (w.heap.size+1) _ m _ ls _ c ⟨op,xa,xb,xl⟩ au xl.length Ns HS.out Oj.out Oe.out (by omega) O6.out SP.out).mono ?_;rintro e Ry ⟨rfl,NC⟩;clear y0 y1 y2 y3;obtain⟨c',OL⟩:∃c',c.plain m ls ⟨op,xa,xb,xl⟩=c':=⟨_,rfl⟩;rw [OL]at NC Nn;clear OL;have hold:=NC.old;have Pm:=V (HB.out.trans (hold.below HB.out.size (fun i hi=>by omega)));have HS:=V NC;have c17:=NC.cell.2.2.2.2.2.2.2.1;obtain⟨bd,PD⟩:∃bd,c'.bad=bd:=⟨_,rfl⟩;rw [PD]at c17 Nn;clear NC hold PD;cases bd
    ·have Rv:=V (Nn.out.2 rfl)
     clear Nn HX;go_wp2;refine HR.out _ _ ⟨_,i+1,rfl,Rv.out,HS.out⟩ ?_;simp [intOf];omega
    ·have hF:=HF.out
     rw [Nn.out.1 rfl]at hF;have HF:=V hF;clear hF;go_wp2;go_ret;exact⟨by rw [HF.out];rfl,Pm.out⟩
end Go.Proofs.YtjmeglibedbljaaGreatDoor
