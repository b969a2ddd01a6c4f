import Derived.Test.YtjmeglibedbljaaGreatDoorRunNoneJ4
import Derived.Deep.Cut
namespace Go.Proofs.YtjmeglibedbljaaGreatDoor
set_option maxRecDepth 100000
set_option maxHeartbeats 20000000
open Go.RowKit Tryz
open Lib renaming hid->V
set_option linter.all false
theorem fc (w:World) (X i:Nat) (v:Value):dU (fun k=>k=X) w (w.setCell ⟨X,i,none⟩ v):=⟨rfl,rfl,rfl,by simp,fun k _ hk=>cH w ⟨X,i,none⟩ v k hk⟩
def sS (w0 w:World) (R:Nat) (a:Option Addr) (cap:Nat) (L:List UInt8) (s:IR):Prop:=
 eD w R #[.slice a L.length cap, .int .i64 s.pos, .int .i64 s.err] 366/\eG w0 (.slice a L.length cap) L/\Below w0.heap.size w0 w/\w0.heap.size <=R/\s.ok L
def Ar (w0 w:World) (R:Nat) (a:Option Addr) (cap:Nat) (L:List UInt8) (v:Value) (s:IR) (e:Ending) (w':World):Prop:=
 e= .returned v/\sS w0 w' R a cap L s/\dU (fun k=>k=R) w w'
theorem sS.keeps {w0 w w':World} {R:Nat} {a:Option Addr} {cap:Nat} {L:List UInt8} {s:IR} {S:Nat ->Prop} (h:sS w0 w R a cap L s) (hk:dU S w w') (hR:¬ S R) (hS:∀i,S i ->w0.heap.size <=i):sS w0 w' R a cap L s:=
 ⟨h.1.keeps hk hR,h.2.1,h.2.2.1.trans (hk.below h.2.2.1.size hS),h.2.2.2⟩
theorem sS.set {w0 w:World} {R:Nat} {a:Option Addr} {cap:Nat} {L:List UInt8} {s s':IR} (h:sS w0 w R a cap L s) {i:Nat} {v:Value}
  (hc:(#[.slice a L.length cap, .int .i64 s.pos, .int .i64 s.err]:Array Value).setIfInBounds i v=#[.slice a L.length cap, .int .i64 s'.pos, .int .i64 s'.err]) (ho:s'.ok L):sS w0 (w.setCell ⟨R,i,none⟩ v) R a cap L s':=
 ⟨by rw [<- hc];exact h.1.set i v,h.2.1,h.2.2.1.setCell h.2.2.2.1 _,h.2.2.2.1,ho⟩
theorem sS.drew {w0 w:World} {R:Nat} {a:Option Addr} {cap:Nat} {L:List UInt8} {s:IR} (h:sS w0 w R a cap L s):sS w0 w.drew R a cap L s:=⟨h.1.drew,h.2.1,h.2.2.1.drew,h.2.2.2⟩
theorem sS.bytes {w0 w:World} {R:Nat} {a:Option Addr} {cap:Nat} {L:List UInt8} {s:IR} (h:sS w0 w R a cap L s):eG w (.slice a L.length cap) L:=h.2.1.below h.2.2.1
theorem qA (w0 w:World) (R:Nat) (a:Option Addr) (cap:Nat) (L:List UInt8) (s:IR) (h:sS w0 w R a cap L s):
  Calls prog 314 #[.pointer (some ⟨R,0,none⟩)] w (Ar w0 w R a cap L (.int .i64 (s.byte L).1) (s.byte L).2):=by
 have Me:=IR.xU h.2.2.2.2;obtain⟨pos,err⟩:=s;have Mf:=h.1;have LF:=h.2.2.2.2;obtain⟨o1,o2,o3⟩:=LF;simp only at o1 o2 o3;obtain⟨_,_,OE,QE,Nc,-⟩:=h.2.1;injection OE with e1 e2 e3;subst e1 e3;clear e2;unfold maxLen at Nc;have d0:=Mf.cell 0;have d1:=Mf.cell 1;have d2:=Mf.cell 2;have z1:=Mf.free 1;have z2:=Mf.free 2;have H:=V h;clear h Mf;simp only at d1 d2;by_cases q1:err=0;rotate_left
 ·have f1:=fa q1
  have HB:=V (show IR.byte L ⟨pos,err⟩=(0,⟨pos,err⟩)by unfold IR.byte;exact if_neg q1);clear q1 Me;go_enter func314,ntmps314;go_wp2;go_ret;exact⟨by rw [HB.out];rfl,by rw [HB.out];exact H.out,dU.refl _ _⟩
 subst q1;by_cases q2:pos=L.length
 ·have f2:((pos:Int)==(L.length:Int))=true:=eI (by omega)
  have HB:=V (show IR.byte L ⟨pos,0⟩=(0,⟨pos,2⟩)by
   unfold IR.byte;rw [aD rfl,show L[pos]?=none from dj (by omega)])
  have HO:=V Me;clear q2 Me;go_enter func314,ntmps314;go_wp2_with fail;refine ea (fun w'=>w'.cell? ⟨R,0,none⟩=some (.slice a L.length cap)/\w'.cell? ⟨R,1,none⟩=some (.int .i64 pos)) (up 0 11 []) (by kernel_rfl) (by kernel_rfl) ⟨d0,d1⟩ ?_;iterate 11 (first | (apply sk rfl rfl;simp only [pt]) | (apply dV rfl rfl rfl;·(rintro w' ⟨t0,t1⟩;go_wp2;exact⟨rfl,rfl,rfl⟩)))
  refine eF ?_;refine aA ?_;go_wp2;go_ret;exact⟨by rw [HB.out];rfl,by rw [HB.out];exact H.out.drew.set rfl (by have:=HO.out;rw [HB.out]at this;exact this),(dU.refl _ _).drew.trans (fc _ R 2 _) (fun _ h=> .inl h)⟩
 ·have f2:((pos:Int)==(L.length:Int))=false:=dR (by omega)
  have LD:pos < L.length:=by omega
  obtain⟨c,hc⟩:∃c,L[pos]?=some c:=⟨_,aq LD⟩;have HB:=V (show IR.byte L ⟨pos,0⟩=(c.toNat,⟨pos+1,0⟩)by
   unfold IR.byte;rw [aD rfl,hc])
  have HO:=V Me;obtain⟨_,_,OE,-,-,Lt⟩:=H.out.bytes;injection OE with e1 e2 e3;subst e1 e3;obtain⟨g,off,rfl,hg⟩:=Lt pos c hc;have hgR:g≠R:=by
   have h1:=aO w _ hg;obtain⟨_,_,OE,-,-,hcells0⟩:=H.out.2.1;injection OE with e1 e2 e3;obtain⟨g',off',e4,Rv⟩:=hcells0 pos c hc;rw [<- e1]at e4;injection e4 with e4;injection e4 with e4 e5;have h2:=aO w0 _ Rv;have h3:=H.out.2.2.2.1;intro h4;rw [h4]at e4;rw [<- e4]at h2;exact absurd h3 (Nat.not_le.2 h2)
  have Pm:((w.drew.setCell ⟨R,1,none⟩ (.int .i64 ((pos:Int)+1)))).cell? ⟨g,off+pos,none⟩=some (bv c):=by
   rw [aX (w:=w) (a:=⟨g,off+pos,none⟩) (cH w.drew ⟨R,1,none⟩ _ g hgR)];exact hg
  have PW:=(H.out.drew.1).set 1 (.int .i64 ((pos:Int)+1));have d0':(w.drew.setCell ⟨R,1,none⟩ (.int .i64 ((pos:Int)+1))).cell? ⟨R,0,none⟩=some (.slice (some ⟨g,off,none⟩) L.length cap):=PW.cell 0;have d1':(w.drew.setCell ⟨R,1,none⟩ (.int .i64 ((pos:Int)+1))).cell? ⟨R,1,none⟩=some (.int .i64 ((pos:Int)+1)):=PW.cell 1;have hcb:(c.toNat:Int) <=255:=by have:=c.toNat_lt;omega
  have hcb0:(0:Int) <=(c.toNat:Int):=by omega
  clear q2 Me Lt e2 hc hg hgR PW;go_enter func314,ntmps314;go_wp2_with fail;refine ea (fun w'=>w'.cell? ⟨R,0,none⟩=some (.slice (some ⟨g,off,none⟩) L.length cap)/\w'.cell? ⟨R,1,none⟩=some (.int .i64 pos)) (up 0 11 []) (by kernel_rfl) (by kernel_rfl) ⟨d0,d1⟩ ?_;iterate 11 (first | (apply sk rfl rfl;simp only [pt]) | (apply dV rfl rfl rfl;·(rintro w' ⟨t0,t1⟩;go_wp2;exact⟨rfl,rfl,rfl⟩)))
  refine eF ?_;refine aA ?_;go_wp2_with fail;refine ea (fun w'=>w'.cell? ⟨R,0,none⟩=some (.slice (some ⟨g,off,none⟩) L.length cap)/\w'.cell? ⟨R,1,none⟩=some (.int .i64 ((pos:Int)+1))/\w'.cell? ⟨g,off+pos,none⟩=some (bv c)) (up 0 13 []) (by kernel_rfl) (by kernel_rfl) ⟨d0',d1',Pm⟩ ?_;iterate 13 (first | (apply sk rfl rfl;simp only [pt]) | (apply dV rfl rfl rfl;·(rintro w' ⟨t0,t1,t2⟩;go_wp2;exact⟨rfl,rfl,rfl⟩)))
  refine eF ?_;refine aA ?_;go_wp2;go_ret;exact⟨by rw [HB.out];rfl,by rw [HB.out];exact(H.out.drew.set rfl (by have:=HO.out;rw [HB.out]at this;exact this)).drew,((dU.refl _ _).drew.trans (fc _ R 1 _) (fun _ h=> .inl h)).drew⟩
theorem uH (w0 w:World) (R:Nat) (a:Option Addr) (cap:Nat) (L:List UInt8) (s:IR) (h:sS w0 w R a cap L s):
  Calls prog 317 #[.pointer (some ⟨R,0,none⟩)] w (Ar w0 w R a cap L (.tuple #[]) (s.zero L)):=by
 have Me:=IR.II h.2.2.2.2;have HH:=V h;obtain⟨s1,MQ⟩:∃s1,(s.byte L).2=s1:=⟨_,rfl⟩;obtain⟨v1,Ou⟩:∃v1,(s.byte L).1=v1:=⟨_,rfl⟩;have HO:=V Me;have H1:=V MQ;have V1:=V Ou;clear h Me MQ Ou;go_enter func317,ntmps317;go_wp2_with fail;refine(qA w0 _ R a cap L s HH.out).mono ?_;rintro e w1 ⟨rfl,h1,hk⟩;rw [V1.out];rw [H1.out]at h1;have z2:=h1.1.free 2;have d2:w1.cell? ⟨R,2,none⟩=some (.int .i64 s1.err):=h1.1.cell 2;have HI:=V h1;clear h1;by_cases q:v1=0
 ·have f:=kX (show(v1:Int)=0 by omega)
  have HZ:=V (show s.zero L=s1 by unfold IR.zero;rw [V1.out,if_pos q,H1.out]);clear q;go_wp2
  go_end0
  exact⟨rfl,by rw [HZ.out];exact HI.out,hk⟩
 ·have f:=fa (show(v1:Int)≠0 by omega)
  have HZ:=V (show s.zero L=⟨s1.pos,1⟩by unfold IR.zero;rw [V1.out,if_neg q,H1.out]);clear q;go_wp2
  go_end0
  exact⟨rfl,by rw [HZ.out];exact HI.out.set rfl (by have:=HO.out;rw [HZ.out]at this;exact this),hk.trans (fc _ R 2 _) (fun _ h=> .inl h)⟩
theorem zF (a:Option Addr) (cap:Nat) {L:List UInt8} {pos:Nat} (h:pos <=L.length):∃a2 LA,
  (∀wx,(Instr.slice 104 (.slice a L.length cap) (some (.int .i64 pos)) none none).run prog wx= .ok (.slice a2 (L.drop pos).length LA) wx)/\
  (∀wy,eG wy (.slice a L.length cap) L ->eG wy (.slice a2 (L.drop pos).length LA) (L.drop pos)):=by
 obtain⟨a2,LA,h1,h2,-⟩:=nY (show L=L.take pos++L.drop pos from(cB pos L).symm) a cap;rw [aP,cm h]at h1;exact⟨a2,LA,h1,h2⟩
theorem DB (l:List UInt8):(gZ 32 l).1 < 4294967296:=by
 unfold gZ;split
 ·simp
 ·split
  ·rename_i h
   simpa using h.2
  ·simp
theorem lf (w0 w:World) (R:Nat) (a:Option Addr) (cap:Nat) (L:List UInt8) (s:IR) (h:sS w0 w R a cap L s) (lim:Nat):
  Calls prog 316 #[.pointer (some ⟨R,0,none⟩), .int .i64 lim] w (Ar w0 w R a cap L (.int .i64 (s.jK L lim).1) (s.jK L lim).2):=by
 have Me:=IR.JR (lim:=lim) h.2.2.2.2;obtain⟨pos,err⟩:=s;have Mf:=h.1;have LF:=h.2.2.2.2;obtain⟨o1,o2,o3⟩:=LF;simp only at o1 o2 o3;obtain⟨_,_,OE,QE,Nc,-⟩:=h.2.1;injection OE with e1 e2 e3;subst e1 e3;clear e2;unfold maxLen at Nc;have d0:=Mf.cell 0;have d1:=Mf.cell 1;have d2:=Mf.cell 2;have z1:=Mf.free 1;have z2:=Mf.free 2;have H:=V h;clear h Mf;simp only at d1 d2;by_cases q1:err=0;rotate_left
 ·have f1:=fa q1
  have HB:=V (show IR.jK L lim ⟨pos,err⟩=(0,⟨pos,err⟩)by unfold IR.jK;exact if_neg q1);clear q1 Me;go_enter func316,ntmps316;go_wp2;go_ret;exact⟨by rw [HB.out];rfl,by rw [HB.out];exact H.out,dU.refl _ _⟩
 subst q1;obtain⟨a2,LA,OE,hi⟩:=zF a cap o1;obtain⟨n,k,er,L6⟩:∃n k er,gZ 32 (L.drop pos)=(n,k,er):=⟨_,_,_,rfl⟩;have hn:n < 4294967296:=by have:=DB (L.drop pos);rw [L6]at this;exact this
 have hk:pos+k <=L.length:=by have:=xP 32 (L.drop pos);rw [L6,bg]at this;simp only at this;omega
 have HB:=V (show IR.jK L lim ⟨pos,0⟩=if er=0 then(if lim < n then(0,⟨pos,1⟩)else(n,⟨pos+k,0⟩))else(0,⟨pos,er⟩)by unfold IR.jK;simp only [L6,if_true]);obtain⟨q,hq⟩:∃q,L.drop pos=q:=⟨_,rfl⟩;rw [hq]at OE hi L6;have HI:=V hi;have HO:=V Me;clear hi Me hq;by_cases q2:er=0;rotate_left
 ·have f2:=fa q2
  have f3:=dR q2;replace HB:=V (show IR.jK L lim ⟨pos,0⟩=(0,⟨pos,er⟩)by rw [HB.out,az q2]);clear q2;go_enter func316,ntmps316;go_wp2_with fail;refine ea (fun w'=>w'.cell? ⟨R,0,none⟩=some (.slice a L.length cap)/\w'.cell? ⟨R,1,none⟩=some (.int .i64 pos)) (up 0 9 ((9,false)::up 10 7 [])) (by kernel_rfl) (by kernel_rfl) ⟨d0,d1⟩ ?_;iterate 9 (first | (apply sk rfl rfl;simp only [pt]) | (apply dV rfl rfl rfl;·(rintro w' ⟨t0,t1⟩;go_wp2;exact⟨rfl,rfl,rfl⟩)))
  refine dZ rfl rfl ?_;go_wp2_with fail;refine(uy _ q _ _ ((HI.out _ H.out.bytes).below (an _ _).drew) (by omega) (by omega)).mono ?_;rintro e w1 ⟨rfl,hb⟩;have LP:Below w.heap.size w w1:=fF hb;rw [L6];have Mp:=H.out.1.below LP H.out.1.lt;have d0':w1.cell? ⟨R,0,none⟩=some (.slice a L.length cap):=Mp.cell 0;have d1':w1.cell? ⟨R,1,none⟩=some (.int .i64 pos):=Mp.cell 1;have d2':w1.cell? ⟨R,2,none⟩=some (.int .i64 0):=Mp.cell 2;have z1':=Mp.free 1;have z2':=Mp.free 2;have h1:sS w0 w1 R a cap L ⟨pos,0⟩:=⟨Mp,H.out.2.1,H.out.2.2.1.trans (LP.mono H.out.2.2.1.size),H.out.2.2.2⟩;have H1:=V h1;have HB1:=V LP;clear h1 Mp hb LP d0 d1 d2 z1 z2 OE L6;go_wp2_with fail;refine⟨⟨d0',d1'⟩,?_⟩;iterate 7 (first | (apply sk rfl rfl;simp only [pt]) | (apply dV rfl rfl rfl;·(rintro w' ⟨t0,t1⟩;go_wp2;exact⟨rfl,rfl,rfl⟩)))
  refine eF ?_;refine aA ?_;go_wp2;go_ret;have hk:=(dU.dW (S:=fun k=>k=R) HB1.out).trans (fc w1 R 2 (.int .i64 er)) (fun _ h=> .inl h);exact⟨by rw [HB.out];rfl,by rw [HB.out];exact H1.out.set rfl (by have:=HO.out;rw [HB.out]at this;exact this),hk⟩
 subst q2;by_cases q3:lim < n
 ·have f3:decide (lim < n)=true:=ay q3
  replace HB:=V (show IR.jK L lim ⟨pos,0⟩=(0,⟨pos,1⟩)by rw [HB.out,aD rfl,aD q3]);clear q3;go_enter func316,ntmps316;go_wp2_with fail;refine ea (fun w'=>w'.cell? ⟨R,0,none⟩=some (.slice a L.length cap)/\w'.cell? ⟨R,1,none⟩=some (.int .i64 pos)) (up 0 9 ((9,false)::up 10 7 [])) (by kernel_rfl) (by kernel_rfl) ⟨d0,d1⟩ ?_;iterate 9 (first | (apply sk rfl rfl;simp only [pt]) | (apply dV rfl rfl rfl;·(rintro w' ⟨t0,t1⟩;go_wp2;exact⟨rfl,rfl,rfl⟩)))
  refine dZ rfl rfl ?_;go_wp2_with fail;refine(uy _ q _ _ ((HI.out _ H.out.bytes).below (an _ _).drew) (by omega) (by omega)).mono ?_;rintro e w1 ⟨rfl,hb⟩;have LP:Below w.heap.size w w1:=fF hb;rw [L6];have Mp:=H.out.1.below LP H.out.1.lt;have d0':w1.cell? ⟨R,0,none⟩=some (.slice a L.length cap):=Mp.cell 0;have d1':w1.cell? ⟨R,1,none⟩=some (.int .i64 pos):=Mp.cell 1;have d2':w1.cell? ⟨R,2,none⟩=some (.int .i64 0):=Mp.cell 2;have z1':=Mp.free 1;have z2':=Mp.free 2;have h1:sS w0 w1 R a cap L ⟨pos,0⟩:=⟨Mp,H.out.2.1,H.out.2.2.1.trans (LP.mono H.out.2.2.1.size),H.out.2.2.2⟩;have H1:=V h1;have HB1:=V LP;clear h1 Mp hb LP d0 d1 d2 z1 z2 OE L6;go_wp2_with fail;refine⟨⟨d0',d1'⟩,?_⟩;iterate 7 (first | (apply sk rfl rfl;simp only [pt]) | (apply dV rfl rfl rfl;·(rintro w' ⟨t0,t1⟩;go_wp2;exact⟨rfl,rfl,rfl⟩)))
  refine eF ?_;refine aA ?_;go_wp2;go_ret;have hk:=(dU.dW (S:=fun k=>k=R) HB1.out).trans (fc w1 R 2 (.int .i64 1)) (fun _ h=> .inl h);exact⟨by rw [HB.out];rfl,by rw [HB.out];exact H1.out.set rfl (by have:=HO.out;rw [HB.out]at this;exact this),hk⟩
 ·have f3:decide (lim < n)=false:=aw q3
  replace HB:=V (show IR.jK L lim ⟨pos,0⟩=(n,⟨pos+k,0⟩)by rw [HB.out,aD rfl,az q3]);clear q3;go_enter func316,ntmps316;go_wp2_with fail;refine ea (fun w'=>w'.cell? ⟨R,0,none⟩=some (.slice a L.length cap)/\w'.cell? ⟨R,1,none⟩=some (.int .i64 pos)) (up 0 9 ((9,false)::up 10 7 [])) (by kernel_rfl) (by kernel_rfl) ⟨d0,d1⟩ ?_;iterate 9 (first | (apply sk rfl rfl;simp only [pt]) | (apply dV rfl rfl rfl;·(rintro w' ⟨t0,t1⟩;go_wp2;exact⟨rfl,rfl,rfl⟩)))
  refine dZ rfl rfl ?_;go_wp2_with fail;refine(uy _ q _ _ ((HI.out _ H.out.bytes).below (an _ _).drew) (by omega) (by omega)).mono ?_;rintro e w1 ⟨rfl,hb⟩;have LP:Below w.heap.size w w1:=fF hb;rw [L6];have Mp:=H.out.1.below LP H.out.1.lt;have d0':w1.cell? ⟨R,0,none⟩=some (.slice a L.length cap):=Mp.cell 0;have d1':w1.cell? ⟨R,1,none⟩=some (.int .i64 pos):=Mp.cell 1;have d2':w1.cell? ⟨R,2,none⟩=some (.int .i64 0):=Mp.cell 2;have z1':=Mp.free 1;have z2':=Mp.free 2;have h1:sS w0 w1 R a cap L ⟨pos,0⟩:=⟨Mp,H.out.2.1,H.out.2.2.1.trans (LP.mono H.out.2.2.1.size),H.out.2.2.2⟩;have H1:=V h1;have HB1:=V LP;clear h1 Mp hb LP d0 d1 d2 z1 z2 OE L6;go_wp2_with fail;refine⟨⟨d0',d1'⟩,?_⟩;iterate 7 (first | (apply sk rfl rfl;simp only [pt]) | (apply dV rfl rfl rfl;·(rintro w' ⟨t0,t1⟩;go_wp2;exact⟨rfl,rfl,rfl⟩)))
  refine eF ?_;refine aA ?_;go_wp2;go_ret;have hk:=(dU.dW (S:=fun k=>k=R) HB1.out).trans ((fc w1 R 2 (.int .i64 0)).trans (fc _ R 1 (.int .i64 ((pos:Int)+k))) (fun _ h=> .inl h)) (fun _ h=> .inl h);have h2:=H1.out.set (s':=⟨pos,0⟩) (i:=2) (v:= .int .i64 0) rfl H1.out.2.2.2.2;exact⟨by rw [HB.out];rfl,by rw [HB.out];exact h2.set rfl (by have:=HO.out;rw [HB.out]at this;exact this),hk⟩
theorem wS (w0 w:World) (R:Nat) (a:Option Addr) (cap:Nat) (L:List UInt8) (s:IR) (h:sS w0 w R a cap L s) (he:s.err=0) (bits:Int) (LG:1 <=bits) (Lw:bits <=64):
  Calls prog 318 #[.pointer (some ⟨R,0,none⟩), .int .i64 bits] w (Ar w0 w R a cap L (.int .i64 (s.qk L bits).1) (s.qk L bits).2):=by
 have Me:=IR.Jq (bits:=bits) h.2.2.2.2;obtain⟨pos,err⟩:=s;have Mf:=h.1;have LF:=h.2.2.2.2;obtain⟨o1,o2,o3⟩:=LF;simp only at o1 o2 o3;obtain⟨_,_,OE,QE,Nc,-⟩:=h.2.1;injection OE with e1 e2 e3;subst e1 e3;clear e2;unfold maxLen at Nc;have d0:=Mf.cell 0;have d1:=Mf.cell 1;have d2:=Mf.cell 2;have z1:=Mf.free 1;have z2:=Mf.free 2;have H:=V h;clear h Mf;simp only at d1 d2;simp only at he;subst he;obtain⟨a2,LA,OE,hi⟩:=zF a cap o1;obtain⟨n,k,er,L6⟩:∃n k er,jb bits (L.drop pos)=(n,k,er):=⟨_,_,_,rfl⟩;have hk:pos+k <=L.length:=by have:=Cw bits (L.drop pos);rw [L6,bg]at this;simp only at this;omega
 have HB:=V (show IR.qk L bits ⟨pos,0⟩=(n,⟨pos+k,er⟩)by unfold IR.qk;simp only [L6]);obtain⟨q,hq⟩:∃q,L.drop pos=q:=⟨_,rfl⟩;rw [hq]at OE hi L6;have HI:=V hi;have HO:=V Me;clear hi Me hq;go_enter func318,ntmps318;go_wp2_with fail;refine ea (fun w'=>w'.cell? ⟨R,0,none⟩=some (.slice a L.length cap)/\w'.cell? ⟨R,1,none⟩=some (.int .i64 pos)) (up 0 10 ((10,false)::up 11 7 [])) (by kernel_rfl) (by kernel_rfl) ⟨d0,d1⟩ ?_;iterate 10 (first | (apply sk rfl rfl;simp only [pt]) | (apply dV rfl rfl rfl;·(rintro w' ⟨t0,t1⟩;go_wp2;exact⟨rfl,rfl,rfl⟩)))
 refine dZ rfl rfl ?_;go_wp2_with fail;refine(CW _ q _ _ ((HI.out _ H.out.bytes).below (an _ _).drew) (by omega) (by omega)).mono ?_;rintro e w1 ⟨rfl,hb⟩;have LP:Below w.heap.size w w1:=fF hb;rw [L6];have Mp:=H.out.1.below LP H.out.1.lt;have d0':w1.cell? ⟨R,0,none⟩=some (.slice a L.length cap):=Mp.cell 0;have d1':w1.cell? ⟨R,1,none⟩=some (.int .i64 pos):=Mp.cell 1;have d2':w1.cell? ⟨R,2,none⟩=some (.int .i64 0):=Mp.cell 2;have z1':=Mp.free 1;have z2':=Mp.free 2;have h1:sS w0 w1 R a cap L ⟨pos,0⟩:=⟨Mp,H.out.2.1,H.out.2.2.1.trans (LP.mono H.out.2.2.1.size),H.out.2.2.2⟩;have H1:=V h1;have HB1:=V LP;clear h1 Mp hb LP d0 d1 d2 z1 z2 OE L6;go_wp2_with fail;refine⟨⟨d0',d1'⟩,?_⟩;iterate 7 (first | (apply sk rfl rfl;simp only [pt]) | (apply dV rfl rfl rfl;·(rintro w' ⟨t0,t1⟩;go_wp2;exact⟨rfl,rfl,rfl⟩)))
 refine eF ?_;refine aA ?_;go_wp2;go_ret;have hk:=(dU.dW (S:=fun k=>k=R) HB1.out).trans ((fc w1 R 1 (.int .i64 ((pos:Int)+k))).trans (fc _ R 2 (.int .i64 er)) (fun _ h=> .inl h)) (fun _ h=> .inl h);have hO:IR.ok L ⟨pos+k,er⟩:=by have:=HO.out;rw [HB.out]at this;exact this
 have h2:=H1.out.set (s':=⟨pos+k,0⟩) (i:=1) (v:= .int .i64 ((pos:Int)+k)) rfl ⟨hO.1,by simp,by simp⟩;exact⟨by rw [HB.out];rfl,by rw [HB.out];exact h2.set rfl hO,hk⟩
theorem FO (w:World) (l:List Int) (t:TypeId) (hl:l.length <=1000):ee 1 eU (w.alloc (.cells (l.map fun n=>Value.int .i64 n).toArray t)) (.slice (some ⟨w.heap.size,0,none⟩) l.length l.length) l:=by
 refine⟨_,l.length,rfl,ag _,by simp only [maxLen];omega,fun i y hy=>⟨w.heap.size,0,rfl,by simp,fun j u hu=>?_⟩⟩;rw [bJ]
 match j,hu with
 | 0,hu=>
  simp [eU]at hu;simp [hy,hu]
 | j+1,hu=>simp [eU]at hu
theorem zz (v:Value) (l:List Int) (x:Int) (w:World) (hl:ee 1 eU w v l):
  Calls prog 320 #[v, .int .i64 x] w (jM (fun n=>x==n) l w):=by
 have HI:=V hl;obtain⟨a,cap,rfl,h1,h2,_⟩:=id hl;unfold maxLen at h2;clear hl;go_enter func320,ntmps320;go_wp2_with fail;refine eC (fun a' w'=>∃(k:Nat),a'=fr (.slice a l.length cap:: .int .i64 x::gs a' 2 5 (.int .i64 l.length:: .int .i64 k::gs a' 9 10 []))/\pR (fun n=>x==n) l w w' k) (fun a' _=>(l.length - (intOf (a'.tmps.getD 8 undef)).toNat)) ?_ ?_
 ·exact⟨0,rfl,by omega,fun i hi=>by omega,an _ _⟩
 ·skip
  rintro R a' w1 ⟨k,Lv,hJ⟩ HR;dsimp only [fr,gs]at Lv;generalize slot a'=f at Lv;subst Lv;obtain⟨hk,hm,hb⟩:=hJ;have Ma:=V hm;clear hm;by_cases Mi:k < l.length;rotate_left
  ·obtain rfl:k=l.length:=by omega
   go_wp2;go_ret;exact⟨by rw [gJ Ma.out];rfl,hb⟩
  obtain⟨e,he⟩:∃e,l[k]?=some e:=⟨_,aq Mi⟩;obtain⟨a',LQ,hv,_,_,Lt⟩:=HI.out.below (hb.mono (ag _));injection hv with e1 e2 e3;subst e1 e3;obtain⟨b,off,rfl,LD,hc⟩:=Lt k e he;have c0:=hc 0 _ rfl;rw [aI,aY]at c0;have HE:=V he;clear Lt e2 he hc;by_cases q:x=e
  ·have f:=eI q
   have HQ:=V (show(x==e)=true from f);clear q;go_wp2;go_ret;exact⟨by rw [ic HE.out HQ.out Ma.out];rfl,hb⟩
  ·have f:=dR q
   have HQ:=V (show(x==e)=false from f);clear q;go_wp2;refine HR.out _ _ ⟨k+1,rfl,by omega,?_,hb⟩ ?_
   ·intro i hi d hd
    rcases bx i k with h | h
    ·exact Ma.out i h d hd
    ·obtain rfl:i=k:=by omega
     rw [HE.out]at hd;injection hd with hd;rw [<- hd];exact HQ.out
   ·simp [intOf]
    omega
theorem Cd (w0 w:World) (R:Nat) (a:Option Addr) (cap:Nat) (L:List UInt8) (s:IR) (h:sS w0 w R a cap L s):
  Calls prog 315 #[.pointer (some ⟨R,0,none⟩)] w (Ar w0 w R a cap L (.int .i64 (s.kind L).1) (s.kind L).2):=by
 have Me:=IR.Ix h.2.2.2.2;have HH:=V h;obtain⟨s1,MQ⟩:∃s1,(s.byte L).2=s1:=⟨_,rfl⟩;obtain⟨v1,Ou⟩:∃v1,(s.byte L).1=v1:=⟨_,rfl⟩;have HO:=V Me;have H1:=V MQ;have V1:=V Ou;have HK:=V (show s.kind L=if v1=64 then(0,s1)else if v1=127 then(1,s1)else if v1=126 then(2,s1)else(0,if s1.err=0 then⟨s1.pos,1⟩else s1)by unfold IR.kind;rw [MQ,Ou]);clear h Me MQ Ou;go_enter func315,ntmps315;go_wp2_with fail;refine(qA w0 _ R a cap L s HH.out).mono ?_;rintro e w1 ⟨rfl,h1,hk⟩;rw [V1.out];rw [H1.out]at h1;have HI1:=V h1;have HK1:=V hk;clear h1 hk;go_wp2_with fail;refine(zz _ [64,127,126] v1 _ (FO w1 [64,127,126] _ (by simp))).mono ?_;rintro e w2 ⟨rfl,hb⟩;have LP:Below w1.heap.size w1 w2:=((an _ _).alloc (ag _) _).trans (hb.mono (by simp));have h2:sS w0 w2 R a cap L s1:=HI1.out.keeps (dU.dW (S:=fun _=>False) LP) (fun h=>h) (fun _ h=>h.elim);have z2:=h2.1.free 2;have d2:w2.cell? ⟨R,2,none⟩=some (.int .i64 s1.err):=h2.1.cell 2;have Oh:=V h2;have Nv:=V (HK1.out.trans (dU.dW (S:=fun k=>k=R) LP) (fun _ h=> .inl h));clear h2 hb LP;by_cases q0:v1=64
 ·have hx:sU (fun n=>((v1:Nat):Int)==n) [64,127,126]=0:=by rw [q0];rfl
  replace HK:=V (show s.kind L=(0,s1)by rw [HK.out,aD q0]);rw [hx];clear hx q0;go_wp2;go_ret;exact⟨by rw [HK.out];rfl,by rw [HK.out];exact Oh.out,Nv.out⟩
 by_cases q1:v1=127
 ·have hx:sU (fun n=>((v1:Nat):Int)==n) [64,127,126]=1:=by rw [q1];rfl
  replace HK:=V (show s.kind L=(1,s1)by rw [HK.out,az q0,aD q1]);rw [hx];clear hx q0 q1;go_wp2;go_ret;exact⟨by rw [HK.out];rfl,by rw [HK.out];exact Oh.out,Nv.out⟩
 by_cases q2:v1=126
 ·have hx:sU (fun n=>((v1:Nat):Int)==n) [64,127,126]=2:=by rw [q2];rfl
  replace HK:=V (show s.kind L=(2,s1)by rw [HK.out,az q0,az q1,aD q2]);rw [hx];clear hx q0 q1 q2;go_wp2;go_ret;exact⟨by rw [HK.out];rfl,by rw [HK.out];exact Oh.out,Nv.out⟩
 have hx:sU (fun n=>((v1:Nat):Int)==n) [64,127,126]= -1:=by
  have h0:(((v1:Nat):Int)==64)=false:=dR (by omega);have h1:(((v1:Nat):Int)==127)=false:=dR (by omega);have h2:(((v1:Nat):Int)==126)=false:=dR (by omega);simp [sU,List.findIdx?_cons,h0,h1,h2]
 replace HK:=V (show s.kind L=(0,if s1.err=0 then⟨s1.pos,1⟩else s1)by rw [HK.out,az q0,az q1,az q2]);rw [hx];clear hx q0 q1 q2;by_cases q:s1.err=0
 ·have f:=eI q
  replace HK:=V (show s.kind L=(0,⟨s1.pos,1⟩)by rw [HK.out,aD q]);clear q;go_wp2;go_ret;exact⟨by rw [HK.out];rfl,by rw [HK.out];exact Oh.out.set rfl (by have:=HO.out;rw [HK.out]at this;exact this),Nv.out.trans (fc _ R 2 _) (fun _ h=> .inl h)⟩
 ·have f:=dR q
  replace HK:=V (show s.kind L=(0,s1)by rw [HK.out,az q]);clear q;go_wp2;go_ret;exact⟨by rw [HK.out];rfl,by rw [HK.out];exact Oh.out,Nv.out⟩
theorem jf (b:jP):(xr b).length=3:=rfl
theorem fm (x:Int):(eU x).length=1:=rfl
theorem D7 (b:jP):∀u∈xr b,u.oneCell'=true:=by
 intro u hu;simp only [xr,bH,bP,da]at hu;rcases hu with rfl | rfl | rfl <;>rfl
theorem jA:(prog.info? 3).map (fun i=>(i.zero,i.size,i.bytes))=some (some (.int .i64 0),1,8):=by kernel_rfl
theorem Bo:(prog.info? 114).map (fun i=>(i.zero,i.size,i.bytes))=some (some (.agg #[.int .i64 0, .int .i64 0, .int .i64 0]),3,24):=by kernel_rfl
theorem pP (n:Int) (w:World):Calls prog 85 #[.int .i64 n] w (ew (kA n) w):=by
 by_cases q0:n=2
 ·have f0:=eI q0
  have HB:=V (show kA n=true by rw [q0];rfl);clear q0;go_enter func85,ntmps85;go_wp2;go_ret;exact⟨by rw [HB.out];rfl,an _ _⟩
 have f0:=dR q0;by_cases q1:n=3
 ·have f1:=eI q1
  have HB:=V (show kA n=true by rw [q1];rfl);clear q0 q1;go_enter func85,ntmps85;go_wp2;go_ret;exact⟨by rw [HB.out];rfl,an _ _⟩
 have f1:=dR q1;by_cases q2:n=4
 ·have f2:=eI q2
  have HB:=V (show kA n=true by rw [q2];rfl);clear q0 q1 q2;go_enter func85,ntmps85;go_wp2;go_ret;exact⟨by rw [HB.out];rfl,an _ _⟩
 have f2:=dR q2;have HB:=V (show kA n=false by unfold kA;rw [f0,f1,f2];rfl);clear q0 q1 q2;go_enter func85,ntmps85;go_wp2;go_ret;exact⟨by rw [HB.out];rfl,an _ _⟩
theorem dS.dropLast {α:Type} {t:TypeId} {k:Nat} {enc:α ->List Value} {w:World} {B:Nat} {a:Option Addr} {m cap:Nat} {l:List α} (h:dS t k enc w B (.slice a (m+1) cap) l) (hm:l.length=m+1) (hk:∀x,(enc x).length=k):
  dS t k enc w B (.slice a m cap) l.dropLast:=by
 obtain⟨hl,hv | ⟨g,LQ,cur,hv,hb,hg,hn,hc,hs,ht⟩⟩:=h
 ·injection hv.1 with _ e;omega
 ·have OV:l.dropLast.length=m:=by rw [dm,hm];rfl
  injection hv with e1 e2 e3;subst e1 e3;refine⟨by rw [jH hk], .inr ⟨g,cap,cur,by rw [OV],hb,hg,by rw [OV];omega,hc,hs,?_⟩⟩;have e4:(l.dropLast.flatMap enc)=(l.flatMap enc).take (m*k):=by
   have MO:l≠[]:=by intro e;rw [e]at hm;simp at hm
   conv=>rhs;rw [<- db MO,List.flatMap_append]
   rw [List.take_append_of_le_length (by rw [jH hk,OV];exact ag _)];rw [dd (by rw [jH hk,OV];exact ag _)]
  rw [e4, <- ht,OV,List.take_take]
  congr 1
  rw [hm];have:m*k <=(m+1)*k:=cK _ (by omega);omega
theorem vL (a:Option Addr) (m cap:Nat) (h:m+1 <=cap) (wx:World):
  (Instr.slice 26 (.slice a (m+1) cap) none (some (.int .i64 m)) none).run prog wx= .ok (.slice a m cap) wx:=by
 have hu:prog.underlying 26=some (.slice 3):=by kernel_rfl
 obtain⟨i0,hi,NM,ME,Nd⟩:=bV jA;simp [Instr.slice,bj hu,Instr.sliceBounds,Instr.sliceBound,sizeOf,typeInfo,hi,asIntOf,show m <=cap by omega];cases a <;>simp [Addr.add]
def Gs (l:List eP) (w:World) (e:Ending) (w':World):Prop:=
 Below w.heap.size w w'/\((∃bs v,fJ l=some bs/\e= .returned (.tuple #[v, .bool true])/\dS 114 3 xr w' w.heap.size v bs)\/(fJ l=none/\e= .returned (.tuple #[.slice none 0 0, .bool false])))
def KU (l:List eP) (w w':World) (va vo:Value) (k:Nat) (all:List jP) (OL:List Nat):Prop:=
 k <=l.length/\gB l l 0 ([],[])=gB l (l.drop k) k (all,OL)/\dS 114 3 xr w' w.heap.size va all/\dS 3 1 eU w' w.heap.size vo (OL.map fun x:Nat=>(x:Int))/\Below w.heap.size w w'/\
 OL.length <=40/\(∀j∈OL,j < all.length)/\(∀b∈all,0 <=b.pos/\b.pos < l.length)/\all.length <=k
theorem xE {l:List eP} {k:Nat} {x:eP} {st:List jP × List Nat} (hx:l[k]?=some x) (h:gB l l 0 ([],[])=gB l (l.drop k) k st) (hs:gd l k x st=none) (hl:l.length <=300):fJ l=none:=by
 obtain⟨hk,rfl⟩:=aG.1 hx;rw [cq hk,gB,hs]at h;unfold fJ;rw [az (by omega),h];rfl
theorem xZ {l:List eP} {k:Nat} {x:eP} {st N5:List jP × List Nat} (hx:l[k]?=some x) (h:gB l l 0 ([],[])=gB l (l.drop k) k st) (hs:gd l k x st=some N5):gB l l 0 ([],[])=gB l (l.drop (k+1)) (k+1) N5:=by
 obtain⟨hk,rfl⟩:=aG.1 hx;rw [cq hk,gB,hs]at h;exact h
theorem pI (v:Value) (l:List eP) (w:World) (hl:gu w v l):Calls prog 42 #[v] w (Gs l w):=by
 obtain⟨a,cap,rfl,h1,h2⟩:=ef.slice hl;have HL:=V hl;clear hl;by_cases q300:l.length <=300;rotate_left
 ·have f0:decide ((300:Int) < (l.length:Int))=true:=ay (by omega)
  have HM:=V (show fJ l=none by unfold fJ;rw [if_pos (by omega)]);go_enter func42,ntmps42;go_wp2
  go_ret2
  exact⟨an _ _, .inr ⟨HM.out,rfl⟩⟩
 have f0:decide ((300:Int) < (l.length:Int))=false:=aw (by omega);go_enter func42,ntmps42;go_wp2_with fail;clear f0;refine eC (fun a' w'=>∃(va vo:Value) (k:Nat) (all:List jP) (OL:List Nat),a'=fr (.slice a l.length cap::gs a' 1 3 (va::vo::gs a' 6 6 (.slice a l.length cap:: .int .i64 l.length:: .int .i64 k::gs a' 15 98 [])))/\KU l w w' va vo k all OL) (fun a' _=>(l.length - (intOf (a'.tmps.getD 14 undef)).toNat)) ?_ ?_
 ·exact⟨_,_,0,[],[],rfl,by omega,rfl,dS.nil _ _,dS.nil _ _,an _ _,by simp,by simp,by simp,by simp⟩
 ·skip
  rintro R a' w1 ⟨va,vo,k,all,OL,Lv,hJ⟩ HR;dsimp only [fr,gs]at Lv;generalize slot a'=f at Lv;subst Lv;obtain⟨hk,hgo,Mo,hopn,hb,ho40,Ml,PX,hlen⟩:=hJ;obtain⟨ava,capva,rfl,_,hcva,-⟩:=Mo.fH jf;obtain⟨avo,capvo,e,_,hcvo,-⟩:=hopn.fH fm;rw [bD]at e;subst e;unfold maxLen at hcva hcvo;obtain⟨n,hn⟩:∃n,OL.length=n:=⟨_,rfl⟩;rw [hn]at hopn ho40⊢;have OM:=V hn;have HGO:=V hgo;have Mk:=V Mo;have Nq:=V hopn;have L9:=V Ml;have HPOS:=V PX;clear hgo Mo hopn Ml PX hn;by_cases q:k < l.length;rotate_left
  ·obtain rfl:k=l.length:=by omega
   have hgo:=HGO.out;rw [List.drop_length,gB]at hgo;rcases n with _ | m
   ·have ho:OL=[]:=aH OM.out
    have HM:=V (show fJ l=some all by unfold fJ;rw [if_neg (by omega),hgo];simp [ho]);clear hgo ho;go_wp2
    go_ret2
    exact⟨hb, .inl ⟨_,_,HM.out,rfl,Mk.out⟩⟩
   ·have ho:OL≠[]:=fun e=>by have:=OM.out;rw [e]at this;simp at this
    have HM:=V (show fJ l=none by unfold fJ;rw [if_neg (by omega),hgo];simp [ho]);clear hgo ho;go_wp2
    go_ret2
    exact⟨hb, .inr ⟨HM.out,rfl⟩⟩
  obtain⟨x,hx⟩:∃x,l[k]?=some x:=⟨_,aq q⟩;obtain⟨b,off,u,rfl,LD,hc,hu⟩:=(HL.out.below hb).get hx;obtain⟨⟨au,LB,rfl,-,-,-⟩,-⟩:=id hu;have c0:=hc 0 _ rfl;have c1:=hc 1 _ rfl;have c2:=hc 2 _ rfl;have c3:=hc 3 _ rfl;rw [aI]at c0;obtain⟨op,xa,xb,xl⟩:=x;have HX:=V hx;have Qp:=V (fun h=>xE hx HGO.out h q300);have Rx:=V (fun N5 h=>xZ (N5:=N5) hx HGO.out h);clear hc hu hx;go_wp2_with fail;refine(pP op _).mono ?_;rintro e w2 ⟨rfl,Lw⟩;have d0:w2.cell? ⟨w1.heap.size,0,none⟩=some (.int .i64 op):=by rw [Lw.cell (by simp),bJ];rfl
  have hb12:Below w1.heap.size w1 w2:=((an _ _).alloc (ag _) _).trans (Lw.mono (by simp));have hs12:w1.heap.size < w2.heap.size:=by have:=Lw.size;simp at this;omega
  have Mk:=V (Mk.out.below hb12);have Nq:=V (Nq.out.below hb12);have hb:=hb.trans (hb12.mono hb.size);clear Lw hb12 c0 c1 c2 c3;cases ho:kA op with
  | true=>
   have HO:=V ho;clear ho;by_cases qn:n=40
   ·subst qn
    have HM:=V (show fJ l=none by
     refine Qp.out ?_;unfold gd;rw [aD HO.out,aD OM.out])
    go_wp2
    go_ret2
    exact⟨hb, .inr ⟨HM.out,rfl⟩⟩
   have fn:((n:Int)==40)=false:=dR (by omega);have Lz:=V (Rx.out (all++[⟨k,-1,-1⟩],OL++[all.length]) (by
    unfold gd;rw [aD HO.out,az (by rw [OM.out];exact qn)]))
   go_wp2_with fail;refine(pP op _).mono ?_;rintro e w3 ⟨rfl,LZ⟩;rw [HO.out];have Mk:=V (Mk.out.below LZ);have Nq:=V (Nq.out.below LZ);have hb:=hb.trans (LZ.mono hb.size);clear LZ d0 fn;have Rt:=Nq.out;go_wp2_with (first | (at_builtin;refine fb w3 rfl _ _ 26 rfl _ 8 (by kernel_rfl) jA rfl (by decide) (by decide) w.heap.size (.slice avo n capvo) (OL.map fun x:Nat=>(x:Int)) rfl Rt (all.length:Int) _ rfl rfl (by simp [eU,Value.oneCell']) rfl (by rw [bD,OM.out];omega) hb.size ?_));intro v4 w4 hopn4 OQ Nb;have Ry:=Mk.out.keeps OQ (fun i hi=>dS.ne Mk.out Rt (by decide) i hi);have MN:=hb.trans (OQ.below hb.size (fun i hi=>(ey Rt hi).1));clear OQ Nb Rt Mk Nq;go_wp2_with (first | (at_builtin;refine fb w4 rfl _ _ 109 rfl _ 24 (by kernel_rfl) Bo rfl (by decide) (by decide) w.heap.size (.slice ava all.length capva) all rfl Ry (⟨k,-1,-1⟩:jP) _ rfl rfl (D7 _) rfl (by omega) MN.size ?_));intro v5 w5 hall5 N7 Qq;have hopn5:=hopn4.keeps N7 (fun i hi=>dS.ne hopn4 Ry (by decide) i hi);have Mh:=MN.trans (N7.below MN.size (fun i hi=>(ey Ry hi).1));have Mk:=V hall5;have Nq:=V hopn5;clear hall5 hopn5 N7 Qq Ry hopn4 MN;go_wp2;refine HR.out _ _ ⟨_,_,k+1,all++[⟨k,-1,-1⟩],OL++[all.length],rfl,by omega,Lz.out,Mk.out,by rw [cn];exact Nq.out,Mh,?_,?_,?_,?_⟩ ?_
   ·rw [ah,OM.out]
    show n+1 <=40;omega
   ·intro j hj
    rw [ah];show j < all.length+1;rcases bT.1 hj with h | h
    ·have:=L9.out j h
     omega
    ·rw [aV.1 h]
     omega
   ·intro b' LP
    rcases bT.1 LP with h | h
    ·exact HPOS.out b' h
    ·rw [aV.1 h]
     exact⟨by simp only;omega,by simp only;omega⟩
   ·rw [ah]
    show all.length+1 <=k+1;omega
   ·simp [intOf]
    omega
  | false=>
   have HO:=V ho;clear ho;go_wp2_with fail;refine(pP op _).mono ?_;rintro e w3 ⟨rfl,LZ⟩;rw [HO.out];have d1:w3.cell? ⟨w1.heap.size,0,none⟩=some (.int .i64 op):=by rw [LZ.cell hs12];exact d0
   have Mk:=V (Mk.out.below LZ);have Nq:=V (Nq.out.below LZ);have hb:=hb.trans (LZ.mono hb.size);clear LZ d0 hs12;by_cases q5:op=5
   ·subst q5
    rcases n with _ | m
    ·have ho:OL=[]:=aH OM.out
     have HM:=V (Qp.out (by
      unfold gd;rw [az (by rw [HO.out];decide),az (by simp),ho];rfl))
     clear ho;go_wp2
     go_ret2
     exact⟨hb, .inr ⟨HM.out,rfl⟩⟩
    have hm0:((m:Int)+1==0)=false:=dR (by omega);obtain⟨j,hj⟩:∃j,OL[m]?=some j:=⟨_,aq (by rw [OM.out];omega)⟩;have hja:=L9.out j (aN hj);obtain⟨bb,hbj⟩:∃bb,all[j]?=some bb:=⟨_,aq hja⟩;obtain⟨hp0,hp1⟩:=HPOS.out bb (aN hbj);obtain⟨QX,Pt,bfin⟩:=bb;simp only at hp0 hp1;have HGL:=V (show OL.getLast?=some j by rw [dG,OM.out];exact hj);obtain⟨go,co,curo,e,-,-,-,hgm,-⟩:=Nq.out.open (by intro e;have:=OM.out;rw [List.map_eq_nil_iff.1 e]at this;simp at this);injection e with e1 e2 e3;subst e1 e3;rw [<- e2]at hgm;clear e2;obtain⟨ga,ca,cura,e,hga1,hga2,hga3,-,-⟩:=Mk.out.open (by intro e;rw [e]at hja;simp at hja);injection e with e1 e2 e3;subst e1 e3;clear e2;have o0:=Nq.out.cell fm (i:=m) (j:=0) (x:=(j:Int)) (by rw [cM,hj];rfl) rfl;rw [aY,aI]at o0;have a0:=Mk.out.cell jf (i:=j) (j:=0) hbj rfl;have a1:=Mk.out.cell jf (i:=j) (j:=1) hbj rfl;have a2:=Mk.out.cell jf (i:=j) (j:=2) hbj rfl;rw [aI]at a0;have HBJ:=V hbj;clear hbj hj;obtain⟨p,hp⟩:∃p:Nat,QX=p:=⟨QX.toNat,by omega⟩;subst hp;have hpl:p < l.length:=by omega
    obtain⟨y,hy⟩:∃y,l[p]?=some y:=⟨_,aq hpl⟩;obtain⟨b',off',u',PR,-,MV,-⟩:=(HL.out.below hb).get hy;injection PR with PR;injection PR with e1 e2;subst e1 e2;have g0:=MV 0 _ rfl;rw [aI]at g0;obtain⟨yo,ya,yb,yl⟩:=y;have g0:w3.cell? ⟨b,off+p*4,none⟩=some (.int .i64 yo):=g0;have HY:=V hy;have HMS:=V (show gd l k ⟨5,xa,xb,xl⟩ (all,OL)=(if yo≠4\/0 <=Pt then none else some (all.set j ⟨p,k,bfin⟩,OL))by
     unfold gd;rw [az (by rw [HO.out];decide),az (by simp),HGL.out];simp only;rw [HBJ.out];simp only;rw [az (by decide)];rw [show((p:Int)).toNat=p by omega,HY.out])
    clear MV hy;by_cases q4:yo=4;rotate_left
    ·have f4:=fa q4
     have HM:=V (Qp.out (by rw [HMS.out,aD (.inl q4)]));clear q4;go_wp2
     go_ret2
     exact⟨hb, .inr ⟨HM.out,rfl⟩⟩
    subst q4;by_cases qe:0 <=Pt
    ·have f4:decide (0 <=Pt)=true:=ay qe
     have HM:=V (Qp.out (by rw [HMS.out,aD (.inr qe)]));go_wp2
     go_ret2
     exact⟨hb, .inr ⟨HM.out,rfl⟩⟩
    have f4:decide (0 <=Pt)=false:=aw qe;have Lz:=V (Rx.out _ (by rw [HMS.out,az (by intro h;rcases h with h | h;exact h rfl;exact qe h)]));have hall':=Mk.out.set jf (i:=j) (j:=1) (x:=⟨p,Pt,bfin⟩) (y:=⟨p,k,bfin⟩) (u:= .int .i64 k) HBJ.out (by omega) rfl;have hopn':=Nq.out.keeps (iQ w3 ga (j*3+1) (.int .i64 k)) (fun i hi h=>dS.ne Nq.out Mk.out (by decide) i hi (by rw [show i=ga from h];rfl));have LP:=hb.setCell (p:=⟨ga,j*3+1,none⟩) hga1 (.int .i64 k);have z:w3.frozen? ⟨ga,j*3+1,none⟩=false:=cX w3 ga _ cura _ hga3;have HALL':=V hall';have HOPN':=V hopn';clear hall' hopn' HMS hga3;go_wp2;refine HR.out _ _ ⟨_,_,k+1,all.set j ⟨p,k,bfin⟩,OL,rfl,by omega,Lz.out,HALL'.out,HOPN'.out,LP,by rw [OM.out];exact ho40,fun i hi=>by rw [dk];exact L9.out i hi,fun c hc=>?_,by rw [dk];omega⟩ ?_
    ·rcases dH hc with h | h
     ·exact HPOS.out c h
     ·rw [h]
      exact⟨by simp only;omega,by simp only;omega⟩
    ·simp [intOf]
     omega
   by_cases OX:op=11
   ·subst OX
    clear q5;rcases n with _ | m
    ·have ho:OL=[]:=aH OM.out
     have HM:=V (Qp.out (by
      unfold gd;rw [az (by rw [HO.out];decide),az (by simp),ho];rfl))
     clear ho;go_wp2
     go_ret2
     exact⟨hb, .inr ⟨HM.out,rfl⟩⟩
    have hm0:((m:Int)+1==0)=false:=dR (by omega);obtain⟨j,hj⟩:∃j,OL[m]?=some j:=⟨_,aq (by rw [OM.out];omega)⟩;have hja:=L9.out j (aN hj);obtain⟨bb,hbj⟩:∃bb,all[j]?=some bb:=⟨_,aq hja⟩;obtain⟨hp0,hp1⟩:=HPOS.out bb (aN hbj);obtain⟨QX,Pt,bfin⟩:=bb;simp only at hp0 hp1;have HGL:=V (show OL.getLast?=some j by rw [dG,OM.out];exact hj);obtain⟨go,co,curo,e,-,-,-,hgm,-⟩:=Nq.out.open (by intro e;have:=OM.out;rw [List.map_eq_nil_iff.1 e]at this;simp at this);injection e with e1 e2 e3;subst e1 e3;rw [<- e2]at hgm;clear e2;obtain⟨ga,ca,cura,e,hga1,hga2,hga3,-,-⟩:=Mk.out.open (by intro e;rw [e]at hja;simp at hja);injection e with e1 e2 e3;subst e1 e3;clear e2;have o0:=Nq.out.cell fm (i:=m) (j:=0) (x:=(j:Int)) (by rw [cM,hj];rfl) rfl;rw [aY,aI]at o0;have a0:=Mk.out.cell jf (i:=j) (j:=0) hbj rfl;have a1:=Mk.out.cell jf (i:=j) (j:=1) hbj rfl;have a2:=Mk.out.cell jf (i:=j) (j:=2) hbj rfl;rw [aI]at a0;have HBJ:=V hbj;clear hbj hj;have Lz:=V (Rx.out (all.set j ⟨QX,Pt,k⟩,OL.dropLast) (by
     unfold gd;rw [az (by rw [HO.out];decide),az (by simp),HGL.out];simp only;rw [HBJ.out];simp only;rw [aD trivial]))
    have hall':=Mk.out.set jf (i:=j) (j:=2) (x:=⟨QX,Pt,bfin⟩) (y:=⟨QX,Pt,k⟩) (u:= .int .i64 k) HBJ.out (by omega) rfl;have hopn':=(Nq.out.keeps (iQ w3 ga (j*3+2) (.int .i64 k)) (fun i hi h=>dS.ne Nq.out Mk.out (by decide) i hi (by rw [show i=ga from h];rfl))).dropLast (by rw [bD,OM.out]) fm;have LP:=hb.setCell (p:=⟨ga,j*3+2,none⟩) hga1 (.int .i64 k);have z:w3.frozen? ⟨ga,j*3+2,none⟩=false:=cX w3 ga _ cura _ hga3;have OE:=vL (some ⟨go,0,none⟩) m capvo hgm;have HALL':=V hall';have HOPN':=V hopn';clear hall' hopn' hga3;go_wp2;refine HR.out _ _ ⟨_,_,k+1,all.set j ⟨QX,Pt,k⟩,OL.dropLast,rfl,by omega,Lz.out,HALL'.out,?_,LP,by rw [dm,OM.out];omega,fun i hi=>by rw [dk];exact L9.out i (List.dropLast_subset _ hi),fun c hc=>?_,by rw [dk];omega⟩ ?_
    ·rw [List.map_dropLast]
     exact HOPN'.out
    ·rcases dH hc with h | h
     ·exact HPOS.out c h
     ·rw [h]
      exact⟨by simp only;omega,by simp only;omega⟩
    ·simp [intOf]
     omega
   have f5:=fa q5;have f11:=fa OX;have Lz:=V (Rx.out (all,OL) (by unfold gd;rw [if_neg (by rw [HO.out];decide),if_pos ⟨q5,OX⟩]));clear q5 OX;go_wp2;refine HR.out _ _ ⟨_,_,k+1,all,OL,rfl,by omega,Lz.out,Mk.out,Nq.out,hb,by rw [OM.out];exact ho40,L9.out,HPOS.out,by omega⟩ ?_;simp [intOf];omega
section
theorem Cz {bits:Int} (hb:bits <=64) (l:List UInt8):iR (jb bits l).1:=by
 unfold jb;split
 ·exact yq
 ·split
  ·rename_i h
   have h1:(2:Int)^(bits.toNat - 1) <=2^63:=by
    have:=cL (n:=2) (by omega) (show bits.toNat - 1 <=63 by omega)
    exact_mod_cast this
   have h2:(2:Int)^63=9223372036854775808:=by decide
   exact⟨by simp only;omega,by simp only;omega⟩
  ·exact yq
theorem Jp (L:List UInt8) (c:Nat) (s:IR) (hc:c < 256):(IR.get L c s).1.ok:=by
 have hC:iR (c:Int):=⟨by omega,by omega⟩;have hn:∀n:Nat,n <=4294967295 ->iR (n:Int):=fun n h=>⟨by omega,by omega⟩;have hu:∀lim s,lim <=4294967295 ->iR ((IR.jK L lim s).1:Int):=fun lim s h=>hn _ (aQ (IR.Ba L lim s) h);have Qr:∀n∈([]:List Int),iR n:=by simp
 unfold IR.get;split
 ·refine⟨hC,hn _ ?_,yq,Qr⟩
  unfold IR.kind;split
  ·simp
  ·split
   ·simp
   ·split <;>simp
 ·exact⟨hC,hu _ _ (by omega),yq,Qr⟩
 ·refine⟨hC,hu _ _ (by omega),yq,?_⟩
  generalize(s.jK L 50).1=k;generalize(s.jK L 50).2=t;intro n hn;rw [List.mem_map]at hn;obtain⟨m,hm,rfl⟩:=hn
  induction k generalizing t with
  | zero=>simp [IR.lW]at hm
  | succ k ih=>
   simp only [IR.lW,bH]at hm;rcases hm with rfl | hm
   ·exact hu _ _ (by omega)
   ·exact ih _ hm
 ·exact⟨hC,hu _ _ (by omega),yq,Qr⟩
 ·exact⟨hC,hu _ _ (by omega),hu _ _ (by omega),Qr⟩
 ·exact⟨hC,yq,yq,Qr⟩
 ·exact⟨hC,Cz (by omega) _,yq,Qr⟩
 ·exact⟨hC,Cz (by omega) _,yq,Qr⟩
 ·exact⟨hC,yq,yq,Qr⟩
theorem get_some {c:UInt8} {l:List UInt8} {x:eP} {s:IR} (hf:fC c.toNat≠0) (hg:IR.get (c::l) c.toNat ⟨1,0⟩=(x,s)) (h:s.err=0):gf (c::l)=some (x,(c::l).drop s.pos):=by
 obtain⟨h1,h2⟩:=IR.sa c l hf;rw [hg]at h1 h2;rw [IR.rest,aD h]at h1;cases hi:gf (c::l)with
 | none=>rw [hi]at h1;cases h1
 | some y=>
  rw [hi]at h1;injection h1 with h1;have:=h2 y hi;simp only at this;rw [this,h1]
theorem get_none {c:UInt8} {l:List UInt8} {x:eP} {s:IR} (hf:fC c.toNat≠0) (hg:IR.get (c::l) c.toNat ⟨1,0⟩=(x,s)) (h:s.err≠0):gf (c::l)=none:=by
 obtain⟨h1,-⟩:=IR.sa c l hf;rw [hg]at h1;rw [IR.rest,az h]at h1;cases hi:gf (c::l)with
 | none=>rfl
 | some y=>rw [hi]at h1;cases h1
theorem lB {P:Program} {fn:Func} {t0 u0 u1:Tmp} {ty:TypeId} (h:fn.results=#[.cell t0 ty, .tmp u0, .tmp u1]) (tmps:Array Value) (w:World) {a:Addr} {v:Value} (ht:tmps.getD t0 undef= .pointer (some a))
  (hl:(loadVar ty a).run P w= .ok v w):(results fn tmps).run P w= .ok (.tuple #[v,tmps.getD u0 undef,tmps.getD u1 undef]) w:=by
 have ht':tmps[t0]?.getD undef= .pointer (some a):=by simpa using ht
 simp [results,h,ht',asAddr,hl]
theorem eD.CR {w:World} {X:Nat} {x0 x1 x2:Int} {v:Value} {t:TypeId} (h:eD w X #[.int .i64 x0, .int .i64 x1, .int .i64 x2,v] t):
  (loadVar 39 ⟨X,0,none⟩).run prog w= .ok (.agg #[.int .i64 x0, .int .i64 x1, .int .i64 x2,v]) w:=by
 have hs:(prog.underlying 39).map (fun d=>match d with | .struct _ | .array _ _=>true | _=>false)=some true:=by kernel_rfl
 obtain⟨d,h1,h2⟩:=bu.1 hs;exact bU w X t 39 _ _ d h h1 (by cases d <;>first | rfl | (exfalso;simp at h2)) (by kernel_rfl)
def C0 (B:Nat) (w:World) (u:Value):Prop:=∀a n cap,u= .slice (some a) n cap ->B <=a.block/\a.block < w.heap.size
def IN (L:List UInt8) (w:World) (e:Ending) (w':World):Prop:=
 Below w.heap.size w w'/\((∃x r u,gf L=some (x,r)/\e= .returned (.tuple #[.agg #[.int .i64 x.op, .int .i64 x.a, .int .i64 x.b,u], .int .i64 ((L.length - r.length:Nat):Int), .int .i64 0])/\gD w' x u/\C0 w.heap.size w' u)\/
  (∃err:Int,gf L=none/\err≠0/\(0 <=err/\err <=12)/\e= .returned (.tuple #[.agg #[.int .i64 0, .int .i64 0, .int .i64 0, .slice none 0 0], .int .i64 0, .int .i64 err])))
def vM (w0 w:World) (X2 R X6:Nat) (a:Option Addr) (cap:Nat) (L:List UInt8) (s:IR) (op av bv:Int) (u:Value):Prop:=
 sS w0 w R a cap L s/\eD w X6 #[.int .i64 op, .int .i64 av, .int .i64 bv,u] 39/\eD w X2 #[.int .i64 0, .int .i64 0, .int .i64 0, .slice none 0 0] 39/\w0.heap.size <=X2/\X2 < R/\R < X6
section
variable {w0 w w':World} {X2 R X6:Nat} {a:Option Addr} {cap:Nat} {L:List UInt8} {s s':IR} {op av bv:Int} {u:Value}
theorem vM.read (h:vM w0 w X2 R X6 a cap L s op av bv u) (k:sS w0 w' R a cap L s') (hk:dU (fun k=>k=R) w w'):vM w0 w' X2 R X6 a cap L s' op av bv u:=by
 obtain⟨h1,h2,h3,h4,h5,h6⟩:=h;exact⟨k,h2.keeps hk (by omega),h3.keeps hk (by omega),h4,h5,h6⟩
theorem vM.AX (h:vM w0 w X2 R X6 a cap L s op av bv u) (n:Int):vM w0 (w.setCell ⟨X6,1,none⟩ (.int .i64 n)) X2 R X6 a cap L s op n bv u:=by
 obtain⟨h1,h2,h3,h4,h5,h6⟩:=h;have hk:=fc w X6 1 (.int .i64 n);exact⟨h1.keeps hk (by omega) (fun i hi=>by omega),by simpa using h2.set 1 (.int .i64 n),h3.keeps hk (by omega),h4,h5,h6⟩
theorem vM.KR (h:vM w0 w X2 R X6 a cap L s op av bv u) (n:Int):vM w0 (w.setCell ⟨X6,2,none⟩ (.int .i64 n)) X2 R X6 a cap L s op av n u:=by
 obtain⟨h1,h2,h3,h4,h5,h6⟩:=h;have hk:=fc w X6 2 (.int .i64 n);exact⟨h1.keeps hk (by omega) (fun i hi=>by omega),by simpa using h2.set 2 (.int .i64 n),h3.keeps hk (by omega),h4,h5,h6⟩
theorem vM.KT (h:vM w0 w X2 R X6 a cap L s op av bv u) (v:Value):vM w0 (w.setCell ⟨X6,3,none⟩ v) X2 R X6 a cap L s op av bv v:=by
 obtain⟨h1,h2,h3,h4,h5,h6⟩:=h;have hk:=fc w X6 3 v;exact⟨h1.keeps hk (by omega) (fun i hi=>by omega),by simpa using h2.set 3 v,h3.keeps hk (by omega),h4,h5,h6⟩
theorem vM.keeps {S:Nat ->Prop} (h:vM w0 w X2 R X6 a cap L s op av bv u) (hk:dU S w w') (hS:∀i,S i ->X6 < i):vM w0 w' X2 R X6 a cap L s op av bv u:=by
 obtain⟨h1,h2,h3,h4,h5,h6⟩:=h;exact⟨h1.keeps hk (fun g=>by have:=hS _ g;omega) (fun i hi=>by have:=hS _ hi;omega),h2.keeps hk (fun g=>by have:=hS _ g;omega),h3.keeps hk (fun g=>by have:=hS _ g;omega),h4,h5,h6⟩
theorem vM.drew (h:vM w0 w X2 R X6 a cap L s op av bv u):vM w0 w.drew X2 R X6 a cap L s op av bv u:=⟨h.1.drew,h.2.1.drew,h.2.2.1.drew,h.2.2.2⟩
end
theorem mq (w:World) (X:Nat) (y0 y1 y2 y3:Value):dU (fun k=>k=X) w ((((w.setCell ⟨X,0,none⟩ y0).setCell ⟨X,1,none⟩ y1).setCell ⟨X,2,none⟩ y2).setCell ⟨X,3,none⟩ y3):=
 (((fc w X 0 y0).trans (fc _ X 1 y1) (fun _ h=> .inl h)).trans (fc _ X 2 y2) (fun _ h=> .inl h)).trans (fc _ X 3 y3) (fun _ h=> .inl h)
def K5 (w0 w:World) (X2 R X6:Nat) (a:Option Addr) (cap:Nat) (L:List UInt8) (c:Nat) (s1:IR) (n k:Nat) (acc:List Nat) (s:IR) (u:Value):Prop:=
 k <=n/\acc.length=k/\(s1.lW L n).1=acc++(s.lW L (n - k)).1/\(s1.lW L n).2=(s.lW L (n - k)).2/\vM w0 w X2 R X6 a cap L s c 0 0 u/\dS 3 1 eU w (X6+1) u (acc.map fun x:Nat=>(x:Int))
def uO (w:World) (X2 R X6:Nat) (a:Option Addr) (cap:Nat) (L:List UInt8) (c:Nat):Act ->World ->Prop:=
 (fun a' w'=>∃(s:IR) (x:eP) (u:Value),a'=fr (gs a' 0 2 (.pointer (some ⟨X2,0,none⟩):: .int .i64 0:: .int .i64 0:: .pointer (some ⟨R,0,none⟩):: .pointer (some ⟨X6,0,none⟩)::gs a' 7 97 []))/\vM w w' X2 R X6 a cap L s x.op x.a x.b u/\(ee 1 eU w' u x.l/\C0 (X2+1) w' u)/\IR.get L c ⟨1,0⟩=(x,s))
theorem qX (b:Value) (L:List UInt8) (w:World) (hb:eG w b L) (hl:L.length <=1000000):Calls prog 308 #[b] w (IN L w):=by
 obtain⟨a,cap,rfl,L7,NG,-⟩:=id hb;have HB:=V hb;unfold maxLen at NG;clear hb;go_enter func308,ntmps308;go_wp2_with fail;have hrd0:sS w ((w.alloc (.cells #[.int .i64 0, .int .i64 0, .int .i64 0, .slice none 0 0] 39)).alloc (.cells #[.slice a L.length cap, .int .i64 0, .int .i64 0] 366)) (w.heap.size+1) a cap L ⟨0,0⟩:=by
  have h1:=eD.new (w.alloc (.cells #[.int .i64 0, .int .i64 0, .int .i64 0, .slice none 0 0] 39)) #[.slice a L.length cap, .int .i64 0, .int .i64 0] 366;rw [aC]at h1;exact⟨h1,HB.out,((an _ _).alloc (ag _) _).alloc (by simp) _,by omega,⟨bB _,by decide,by decide⟩⟩
 have Pn:=(eD.new w #[.int .i64 0, .int .i64 0, .int .i64 0, .slice none 0 0] 39).alloc (.cells #[.slice a L.length cap, .int .i64 0, .int .i64 0] 366);refine(qA w _ _ a cap L ⟨0,0⟩ hrd0).mono ?_;rintro e w3 ⟨rfl,h1,hk⟩;obtain⟨c,hc⟩:∃c,(IR.byte L ⟨0,0⟩).1=c:=⟨_,rfl⟩;obtain⟨s1,MQ⟩:∃s1,(IR.byte L ⟨0,0⟩).2=s1:=⟨_,rfl⟩;rw [hc];rw [MQ]at h1;have hx3:=Pn.keeps hk (by omega);have OC:w.heap.size+1 < w3.heap.size:=h1.1.lt;have HC:=V hc;have HS1:=V MQ;have Ms:=V h1;have Mg:=V hx3;clear h1 hk Pn hx3 hrd0 hc MQ;go_wp2_with fail;refine(uC c _).mono ?_;rintro e w5 ⟨rfl,Mh⟩;have hg:vM w w5 w.heap.size (w.heap.size+1) w3.heap.size a cap L s1 c 0 0 (.slice none 0 0):=by
  have M8:Below w3.heap.size w3 w5:=((an _ _).alloc (ag _) _).trans (Mh.mono (by simp));exact⟨Ms.out.keeps (dU.dW (S:=fun _=>False) M8) (fun h=>h) (fun _ h=>h.elim),(eD.new w3 _ _).below Mh (by simp),Mg.out.below M8 Mg.out.lt,ag _,by omega,OC⟩
 have HG:=V hg;clear hg Mh Mg Ms OC;generalize w.heap.size+1=R at HG⊢;generalize w.heap.size=X2 at HG⊢;generalize w3.heap.size=X6 at HG⊢;have Rz:L=[]\/∃c0 l,L=c0::l:=by cases L with | nil=>exact .inl rfl | cons c0 l=>exact .inr ⟨c0,l,rfl⟩
 rcases Rz with hL | ⟨c0,l,hL⟩
 ·have h1:s1=⟨0,2⟩:=by rw [<- HS1.out,hL];rfl
  have h2:c=0:=by rw [<- HC.out,hL];rfl
  subst h1 h2;have HN:=V (show gf L=none by rw [hL];rfl);have HNE:=V (show(2:Int)≠0 by decide);have hf0:fC ((0:Nat):Int)=1:=by decide
  rw [hf0];clear hf0 hL HS1 HC;obtain⟨ML,-,NI,Nr,hoo2,hoo3⟩:=HG.out;obtain⟨⟨x0,x1,x2,x3⟩,g0,g1,g2,g3⟩:=NI.four;have d2:(w5).cell? ⟨R,2,none⟩=some (.int .i64 (IR.err ⟨0,2⟩)):=ML.1.cell 2;have MZ:=mq (w5).drew X2 (.int .i64 0) (.int .i64 0) (.int .i64 0) (.slice none 0 0);have QY:=(ML.1.drew.keeps MZ (by omega)).cell 2;have HX:=V (NI.drew.tN (.int .i64 0) (.int .i64 0) (.int .i64 0) (.slice none 0 0));have PY:=V QY;have L5:=V (((((ML.2.2.1.drew).setCell (p:=⟨X2,0,none⟩) Nr (.int .i64 0)).setCell (p:=⟨X2,1,none⟩) Nr (.int .i64 0)).setCell (p:=⟨X2,2,none⟩) Nr (.int .i64 0)).setCell (p:=⟨X2,3,none⟩) Nr (.slice none 0 0));clear ML NI MZ QY
  go_upto_region 7 with fail
  refine ea (fun w'=>w'.cell? ⟨R,2,none⟩=some (.int .i64 (IR.err ⟨0,2⟩))) (up 0 5 ((5,false)::(6,true)::(7,true)::[])) (by kernel_rfl) (by kernel_rfl) d2 ?_;iterate 5 (first | (apply sk rfl rfl;simp only [pt]) | (apply dV rfl rfl rfl;·(rintro w' t0;go_wp2;exact⟨rfl,rfl,rfl⟩)))
  refine dZ rfl rfl ?_;go_wp2_with fail;refine⟨PY.out,?_⟩;iterate 2 (first | (apply sk rfl rfl;simp only [pt]) | (apply dV rfl rfl rfl;·(rintro w' t0;go_wp2;exact⟨rfl,rfl,rfl⟩)))
  refine eF ?_;refine aA ?_;go_wp2_with fail;refine aF (lB rfl _ _ rfl HX.out.CR) rfl ?_;exact⟨L5.out, .inr ⟨_,HN.out,HNE.out,HG.out.1.2.2.2.2.2,rfl⟩⟩
 ·have h1:s1=⟨1,0⟩:=by rw [<- HS1.out,hL];rfl
  have h2:c=c0.toNat:=by rw [<- HC.out,hL];rfl
  subst h1 h2;have N8:c0.toNat < 256:=c0.toNat_lt;obtain⟨f,hf⟩:∃f,fC (c0.toNat:Int)=f:=⟨_,rfl⟩;have Rw:f <=9:=by rw [<- hf];exact nK _
  rw [hf];by_cases hz:f=0
  ·subst hz
   have HN:=V (show gf L=none by rw [hL];unfold gf;dsimp only;rw [hf];rfl);have HNE:=V (show(1:Int)≠0 by decide);have LS:=HG.out.read (HG.out.1.set (s':=⟨1,1⟩) (i:=2) (v:= .int .i64 1) rfl ⟨by rw [hL];simp,by decide,by decide⟩) (fc w5 R 2 _);have z2:=HG.out.1.1.free 2;have d2:w5.cell? ⟨R,2,none⟩=some (.int .i64 0):=HG.out.1.1.cell 2;clear hf HS1 HC Rw hL HG
   go_upto_region 6 with fail
   generalize w5.setCell ⟨R,2,none⟩ (.int .i64 1)=w6 at LS⊢;have HG:=V LS;clear LS z2 d2;obtain⟨ML,-,NI,Nr,hoo2,hoo3⟩:=HG.out;obtain⟨⟨x0,x1,x2,x3⟩,g0,g1,g2,g3⟩:=NI.four;have d2:(w6).cell? ⟨R,2,none⟩=some (.int .i64 (IR.err ⟨1,1⟩)):=ML.1.cell 2;have MZ:=mq (w6).drew X2 (.int .i64 0) (.int .i64 0) (.int .i64 0) (.slice none 0 0);have QY:=(ML.1.drew.keeps MZ (by omega)).cell 2;have HX:=V (NI.drew.tN (.int .i64 0) (.int .i64 0) (.int .i64 0) (.slice none 0 0));have PY:=V QY;have L5:=V (((((ML.2.2.1.drew).setCell (p:=⟨X2,0,none⟩) Nr (.int .i64 0)).setCell (p:=⟨X2,1,none⟩) Nr (.int .i64 0)).setCell (p:=⟨X2,2,none⟩) Nr (.int .i64 0)).setCell (p:=⟨X2,3,none⟩) Nr (.slice none 0 0));clear ML NI MZ QY
   go_upto_region 7 with fail
   refine ea (fun w'=>w'.cell? ⟨R,2,none⟩=some (.int .i64 (IR.err ⟨1,1⟩))) (up 0 5 ((5,false)::(6,true)::(7,true)::[])) (by kernel_rfl) (by kernel_rfl) d2 ?_;iterate 5 (first | (apply sk rfl rfl;simp only [pt]) | (apply dV rfl rfl rfl;·(rintro w' t0;go_wp2;exact⟨rfl,rfl,rfl⟩)))
   refine dZ rfl rfl ?_;go_wp2_with fail;refine⟨PY.out,?_⟩;iterate 2 (first | (apply sk rfl rfl;simp only [pt]) | (apply dV rfl rfl rfl;·(rintro w' t0;go_wp2;exact⟨rfl,rfl,rfl⟩)))
   refine eF ?_;refine aA ?_;go_wp2_with fail;refine aF (lB rfl _ _ rfl HX.out.CR) rfl ?_;exact⟨L5.out, .inr ⟨_,HN.out,HNE.out,HG.out.1.2.2.2.2.2,rfl⟩⟩
  have HF:=V hf;have HL:=V hL;have HF9:=V Rw;have MO:((f:Int)==0)=false:=dR (by omega);clear hf HS1 HC hL Rw;obtain⟨ML,hb6x,NI,-,hoo2,hoo3⟩:=HG.out;obtain⟨⟨e0,e1,e2,e3⟩,-,y1,y2,y3⟩:=hb6x.four;have d1:(w5).cell? ⟨R,1,none⟩=some (.int .i64 (IR.pos ⟨1,0⟩)):=ML.1.cell 1;have d2:(w5).cell? ⟨R,2,none⟩=some (.int .i64 (IR.err ⟨1,0⟩)):=ML.1.cell 2;have z2:=ML.1.free 2;clear ML hb6x NI
  go_upto_region 9 with fail
  rename_i K1 h1 K2 h2;have HK:Hid (∀a' w',uO w X2 R X6 a cap L c0.toNat a' w' ->K1 a' w'):=V (by
   clear h2 MO d1 d2 z2 e0 e1 e2 e3 y1 y2 y3;rintro a' w7 h;unfold uO at h;obtain⟨s,x,u,Lv,hg,⟨hu,hfu⟩,hget⟩:=h;dsimp only [fr,gs]at Lv;generalize slot a'=g at Lv;subst Lv;apply h1;clear h1;have LF:=Jp L c0.toNat ⟨1,0⟩ N8;rw [hget]at LF;obtain⟨xo,xa,xb,xl⟩:=x;simp only at hu hg LF;have HGT:=V hget;have Mv:=V LF;have HU:=V hu;have HFU:=V hfu;have HG:=V hg;have Pu:=V (show fC c0.toNat≠0 by rw [HF.out];exact hz);have hn:∀s':IR,s'=s ->s'.err≠0 ->gf L=none:=fun s' e h=>by rw [HL.out];exact get_none Pu.out (by rw [<- HL.out,HGT.out]) (by rw [<- e];exact h)
   have Oi:s.err=0 ->gf L=some (⟨xo,xa,xb,xl⟩,L.drop s.pos):=fun h=>by rw [HL.out];exact get_some Pu.out (by rw [<- HL.out,HGT.out]) h
   have HNN:=V hn;have HSM:=V Oi;clear LF hget hu hfu hg hn Oi;by_cases q:s.err=0;rotate_left
   ·have f1:=fa q
    have HN:=V (HNN.out s rfl q);have HNE:=V q;clear q;obtain⟨ML,-,NI,Nr,hoo2,hoo3⟩:=HG.out;obtain⟨⟨x0,x1,x2,x3⟩,g0,g1,g2,g3⟩:=NI.four;have d2:(w7).cell? ⟨R,2,none⟩=some (.int .i64 (IR.err s)):=ML.1.cell 2;have MZ:=mq (w7).drew X2 (.int .i64 0) (.int .i64 0) (.int .i64 0) (.slice none 0 0);have QY:=(ML.1.drew.keeps MZ (by omega)).cell 2;have HX:=V (NI.drew.tN (.int .i64 0) (.int .i64 0) (.int .i64 0) (.slice none 0 0));have PY:=V QY;have L5:=V (((((ML.2.2.1.drew).setCell (p:=⟨X2,0,none⟩) Nr (.int .i64 0)).setCell (p:=⟨X2,1,none⟩) Nr (.int .i64 0)).setCell (p:=⟨X2,2,none⟩) Nr (.int .i64 0)).setCell (p:=⟨X2,3,none⟩) Nr (.slice none 0 0));clear ML NI MZ QY
    go_upto_region 32 with fail
    refine ea (fun w'=>w'.cell? ⟨R,2,none⟩=some (.int .i64 (IR.err s))) (up 0 5 ((5,false)::(6,true)::(7,true)::[])) (by kernel_rfl) (by kernel_rfl) d2 ?_;iterate 5 (first | (apply sk rfl rfl;simp only [pt]) | (apply dV rfl rfl rfl;·(rintro w' t0;go_wp2;exact⟨rfl,rfl,rfl⟩)))
    refine dZ rfl rfl ?_;go_wp2_with fail;refine⟨PY.out,?_⟩;iterate 2 (first | (apply sk rfl rfl;simp only [pt]) | (apply dV rfl rfl rfl;·(rintro w' t0;go_wp2;exact⟨rfl,rfl,rfl⟩)))
    refine eF ?_;refine aA ?_;go_wp2_with fail;refine aF (lB rfl _ _ rfl HX.out.CR) rfl ?_;exact⟨L5.out, .inr ⟨_,HN.out,HNE.out,HG.out.1.2.2.2.2.2,rfl⟩⟩
   ·have HI:=V (HSM.out q)
    have d2:w7.cell? ⟨R,2,none⟩=some (.int .i64 0):=by rw [<- q];exact HG.out.1.1.cell 2
    obtain⟨au,LB,rfl,-,-,-⟩:=id HU.out;clear q HNN HSM;obtain⟨ML,hb6x,NI,Nr,hoo2,hoo3⟩:=HG.out;obtain⟨⟨x0,x1,x2,x3⟩,g0,g1,g2,g3⟩:=NI.four;have d1:w7.cell? ⟨R,1,none⟩=some (.int .i64 s.pos):=ML.1.cell 1;obtain⟨⟨l0,l1,l2,l3⟩,-⟩:=hb6x.four;have MZ:=mq w7.drew X2 (.int .i64 xo) (.int .i64 xa) (.int .i64 xb) (.slice au xl.length LB);have HD1:=V ((ML.1.drew.keeps MZ (by omega)).cell 1);have HL6:=V (hb6x.drew.keeps MZ (by omega)).four.1;have HX:=V (NI.drew.tN (.int .i64 xo) (.int .i64 xa) (.int .i64 xb) (.slice au xl.length LB));have L5:=V (((((ML.2.2.1.drew).setCell (p:=⟨X2,0,none⟩) Nr (.int .i64 xo)).setCell (p:=⟨X2,1,none⟩) Nr (.int .i64 xa)).setCell (p:=⟨X2,2,none⟩) Nr (.int .i64 xb)).setCell (p:=⟨X2,3,none⟩) Nr (.slice au xl.length LB));have hu9:=HU.out.keeps MZ.AQ (fun b n c e h=>by have:=(HFU.out b n c e).1;have h':b.block=X2:=h;omega);have Rw:C0 w.heap.size ((((w7.drew.setCell ⟨X2,0,none⟩ (.int .i64 xo)).setCell ⟨X2,1,none⟩ (.int .i64 xa)).setCell ⟨X2,2,none⟩ (.int .i64 xb)).setCell ⟨X2,3,none⟩ (.slice au xl.length LB)) (.slice au xl.length LB):=fun b n c e=>by
     obtain⟨k1,k2⟩:=HFU.out b n c e;exact⟨by omega,by simpa using k2⟩
    have HU9:=V hu9;have HF9':=V Rw;have hpl:s.pos <=L.length:=ML.2.2.2.2.1;have HPL:=V hpl;clear ML hb6x NI MZ hu9 Rw hpl
    go_upto_region 33 with fail
    refine ea (fun w'=>w'.cell? ⟨R,1,none⟩=some (.int .i64 s.pos)/\w'.cell? ⟨X6,0,none⟩=some (.int .i64 xo)/\w'.cell? ⟨X6,1,none⟩=some (.int .i64 xa)/\w'.cell? ⟨X6,2,none⟩=some (.int .i64 xb)/\w'.cell? ⟨X6,3,none⟩=some (.slice au xl.length LB)) (up 0 5 ((5,false)::(6,true)::(7,true)::[])) (by kernel_rfl) (by kernel_rfl) ⟨d1,l0,l1,l2,l3⟩ ?_;iterate 5 (first | (apply sk rfl rfl;simp only [pt]) | (apply dV rfl rfl rfl;·(rintro w' ⟨t0,t1,t2,t3,t4⟩;go_wp2;exact⟨rfl,rfl,rfl⟩)))
    refine dZ rfl rfl ?_;go_wp2_with fail;refine⟨⟨HD1.out,HL6.out⟩,?_⟩;iterate 2 (first | (apply sk rfl rfl;simp only [pt]) | (apply dV rfl rfl rfl;·(rintro w' ⟨t0,t1,t2,t3,t4⟩;go_wp2;exact⟨rfl,rfl,rfl⟩)))
    refine eF ?_;refine aA ?_;go_wp2_with fail;refine aF (lB rfl _ _ rfl HX.out.CR) rfl ?_;refine⟨L5.out, .inl ⟨_,_,_,HI.out,?_,⟨HU9.out,Mv.out⟩,HF9'.out⟩⟩;have e:((L.length - (L.drop s.pos).length:Nat):Int)=s.pos:=by
     rw [bg];have:=HPL.out;omega
    rw [e];rfl
   )
  clear h1 d1 d2 z2;have Nv:=HK;clear HK;rcases(show f=1\/f=2\/f=3\/f=4\/f=5\/f=6\/f=7\/f=8\/f=9 by have:=HF9.out;omega)with rfl | rfl | rfl | rfl | rfl | rfl | rfl | rfl | rfl
  ·clear hz MO e1 e2 e3 y1 y2 y3 L7 NG N8
   have HI:=V (show IR.get L c0.toNat ⟨1,0⟩=(⟨c0.toNat,0,0,[]⟩,⟨1,0⟩)by unfold IR.get;rw [HF.out];rfl);go_wp2_with fail;refine Nv.out _ _ ?_;unfold uO;exact⟨_,_,_,rfl,HG.out,⟨ee.nil _,fun _ _ _ h=>by cases h⟩,HI.out⟩
  ·skip
   clear hz MO L7 NG N8;have HI:=V (show IR.get L c0.toNat ⟨1,0⟩=(⟨c0.toNat,(IR.kind L ⟨1,0⟩).1,0,[]⟩,(IR.kind L ⟨1,0⟩).2)by unfold IR.get;rw [HF.out];rfl);go_wp2_with fail;refine(Cd w w5 R a cap L ⟨1,0⟩ HG.out.1).mono ?_;rintro e w8 ⟨rfl,hr,hk⟩;have Oj:=V (HG.out.read hr hk);obtain⟨⟨e0',e1',e2',e3'⟩,-,y1',y2',y3'⟩:=Oj.out.2.1.four;clear hr hk e0 e1 e2 e3 y1 y2 y3;go_wp2_with fail;refine Nv.out _ _ ?_;unfold uO;exact⟨_,⟨_,_,_,_⟩,_,rfl,Oj.out.AX _,⟨ee.nil _,fun _ _ _ h=>by cases h⟩,HI.out⟩
  ·skip
   clear hz MO L7 NG N8;have HI:=V (show IR.get L c0.toNat ⟨1,0⟩=(⟨c0.toNat,(IR.jK L 1000 ⟨1,0⟩).1,0,[]⟩,(IR.jK L 1000 ⟨1,0⟩).2)by unfold IR.get;rw [HF.out];rfl);go_wp2_with fail;refine(lf w w5 R a cap L ⟨1,0⟩ HG.out.1 1000).mono ?_;rintro e w8 ⟨rfl,hr,hk⟩;have Oj:=V (HG.out.read hr hk);obtain⟨⟨e0',e1',e2',e3'⟩,-,y1',y2',y3'⟩:=Oj.out.2.1.four;clear hr hk e0 e1 e2 e3 y1 y2 y3;go_wp2_with fail;refine Nv.out _ _ ?_;unfold uO;exact⟨_,⟨_,_,_,_⟩,_,rfl,Oj.out.AX _,⟨ee.nil _,fun _ _ _ h=>by cases h⟩,HI.out⟩
  ·skip
   clear hz MO L7 NG N8;obtain⟨n,hn⟩:∃n,(IR.jK L 50 ⟨1,0⟩).1=n:=⟨_,rfl⟩;obtain⟨s1,MQ⟩:∃s1,(IR.jK L 50 ⟨1,0⟩).2=s1:=⟨_,rfl⟩;have hn50:n <=50:=by rw [<- hn];exact IR.Ba L 50 _
   have HI:=V (show IR.get L c0.toNat ⟨1,0⟩=(⟨c0.toNat,((s1.lW L n).2.jK L 1000).1,0,(s1.lW L n).1.map fun x:Nat=>(x:Int)⟩,((s1.lW L n).2.jK L 1000).2)by unfold IR.get;rw [HF.out];rw [<- hn, <- MQ];rfl);have HN:=V hn;have HS1:=V MQ;clear hn MQ;go_wp2_with fail;refine(lf w w5 R a cap L ⟨1,0⟩ HG.out.1 50).mono ?_;rintro e w8 ⟨rfl,hr,hk⟩;have hg8:=HG.out.read hr hk;rw [HN.out];rw [HS1.out]at hg8;have Oj:=V hg8;clear hr hk hg8 e0 e1 e2 e3 y1 y2 y3;go_wp2_with fail;refine eC (fun a' w'=>∃(k:Nat) (acc:List Nat) (s:IR) (u:Value),a'=fr (gs a' 0 2 (.pointer (some ⟨X2,0,none⟩):: .int .i64 0:: .int .i64 0:: .pointer (some ⟨R,0,none⟩):: .pointer (some ⟨X6,0,none⟩)::gs a' 7 46 (.int .i64 n:: .int .i64 k::gs a' 55 49 [])))/\K5 w w' X2 R X6 a cap L c0.toNat s1 n k acc s u) (fun a' _=>(n - (intOf (a'.tmps.getD 54 undef)).toNat)) ?_ ?_
   ·exact⟨0,[],s1,_,rfl,by omega,rfl,rfl,rfl,Oj.out,dS.nil _ _⟩
   ·skip
    rintro RR a' w1 ⟨k,acc,s,u,Lv,hJ⟩ HR;dsimp only [fr,gs]at Lv;generalize slot a'=f at Lv;subst Lv;obtain⟨hk,rfl,QV,hl2,hg,ho⟩:=hJ;obtain⟨au,LB,hu,_,Nc,-⟩:=ho.fH fm;rw [bD]at hu;subst hu;unfold maxLen at Nc;have HGK:=V hg;have HO:=V ho;have QM:=V QV;have QG:=V hl2;clear QV hl2 hg ho;by_cases q:acc.length < n
    ·have c3:w1.cell? ⟨X6,3,none⟩=some (.slice au acc.length LB):=HGK.out.2.1.cell 3
     go_wp2_with fail;refine eK (fun w'=>w'.cell? ⟨X6,3,none⟩=some (.slice au acc.length LB)) 7
      (up 0 3 ((3,false)::(4,false)::(5,false)::(6,true)::[])) (by kernel_rfl) (by kernel_rfl) c3 ?_
     clear c3;iterate 3 (first | (apply sk rfl rfl;simp only [pt]) | (apply dV rfl rfl rfl;·(rintro w' t0;go_wp2;exact⟨rfl,rfl,rfl⟩)))
     refine dZ rfl rfl ?_;go_wp2_with fail;refine(lf w w1.drew R a cap L s HGK.out.1.drew 1000).mono ?_;rintro e w8 ⟨rfl,hr,Nn⟩;obtain⟨m,hm⟩:∃m,(IR.jK L 1000 s).1=m:=⟨_,rfl⟩;obtain⟨s2,LL⟩:∃s2,(IR.jK L 1000 s).2=s2:=⟨_,rfl⟩;rw [hm];rw [LL]at hr;have hm1:m <=1000:=by rw [<- hm];exact IR.Ba L 1000 s
     have HM:=V hm;have MM:=V LL;have hg8:=HGK.out.drew.read hr Nn;have hk18:=Nn.AQ;have ho8:=HO.out.keeps hk18 (fun i hi h=>by have:=(ey HO.out hi).1;have h':i=R:=h;omega);have Oj:=V hg8;clear hm LL hr Nn hk18 hg8;go_wp2_with fail;refine⟨Oj.out.2.1.cell 3,?_⟩;refine dZ rfl rfl ?_;go_wp2_with fail;refine⟨(Oj.out.2.1.alloc _).cell 3,?_⟩;refine dZ rfl rfl ?_;refine fb w8 rfl _ _ 26 rfl _ 8 (by kernel_rfl) (show(prog.info? 3).map (fun i=>(i.zero,i.size,i.bytes))=some (some (.int .i64 0),1,8)by kernel_rfl) rfl (by decide) (by decide) (X6+1) (.slice au acc.length LB) (acc.map fun x:Nat=>(x:Int)) rfl ho8 (m:Int) _ rfl rfl (by simp [eU,Value.oneCell']) rfl (by rw [bD];omega) (by have:=Oj.out.2.1.lt;omega) ?_;intro v10 w10 Ps PN hs10;have Lu:∀i,ez (.slice au acc.length LB) i ->X6+1 <=i:=fun i hi=>(ey ho8 hi).1;have hg10:=Oj.out.keeps PN (fun i hi=>by have:=Lu i hi;omega);generalize hA:acc.map (fun x:Nat=>(x:Int))++[(m:Int)]=Oe at Ps;have HA:=V hA;obtain⟨a9,cap9,rfl,-,-⟩:=Ps.fH fm;have c3:w10.cell? ⟨X6,3,none⟩=some (.slice au acc.length LB):=hg10.2.1.cell 3;have y3:=hg10.2.1.free 3;have HG11:=V (hg10.KT (.slice a9 Oe.length cap9));have HK11:=V (fc w10 X6 3 (.slice a9 Oe.length cap9));have HO10:=V Ps;clear PN hs10 Lu hg10 ho8 Oj Ps hA;go_wp2_with fail;refine⟨c3,?_⟩;iterate 1 (first | (apply sk rfl rfl;simp only [pt]) | (apply dV rfl rfl rfl;·(rintro w' t0;go_wp2;exact⟨rfl,rfl,rfl⟩)))
     refine fu rfl rfl ?_;go_wp2;refine⟨trivial,?_⟩;refine aA ?_;go_wp2;refine HR.out _ _ ⟨acc.length+1,acc++[m],s2, .slice a9 Oe.length cap9,rfl,?_⟩ ?_
     ·have e1:n - acc.length=(n - (acc.length+1))+1:=by omega
      refine⟨by omega,by rw [ah];rfl,?_,?_,HG11.out,?_⟩
      ·rw [QM.out,e1,IR.lW,HM.out,MM.out,aK]
       rfl
      ·rw [QG.out,e1,IR.lW,MM.out]
      ·rw [cn,List.map_singleton,HA.out]
       exact HO10.out.keeps HK11.out (fun i hi h=>by have:=(ey HO10.out hi).1;have h':i=X6:=h;omega)
     ·simp [intOf]
      omega
    ·obtain rfl:n=acc.length:=by omega
     have hL:(s1.lW L acc.length)=(acc,s):=by
      rw [Prod.ext_iff];refine⟨?_,?_⟩
      ·rw [QM.out,Nat.sub_self,IR.lW]
       simp
      ·rw [QG.out,Nat.sub_self,IR.lW]
     replace HI:=V (show IR.get L c0.toNat ⟨1,0⟩=(⟨c0.toNat,(s.jK L 1000).1,0,acc.map fun x:Nat=>(x:Int)⟩,(s.jK L 1000).2)by rw [HI.out,hL]);clear hL QM QG hk;go_wp2_with fail;refine(lf w w1 R a cap L s HGK.out.1 1000).mono ?_;rintro e w8 ⟨rfl,hr,Nn⟩;have Oj:=V (HGK.out.read hr Nn);have ho8:=HO.out.keeps Nn (fun i hi h=>by have:=(ey HO.out hi).1;have h':i=R:=h;omega);obtain⟨⟨e0,e1,e2,e3⟩,-,y1,y2,y3⟩:=Oj.out.2.1.four;have ho9:=ho8.keeps (fc w8 X6 1 (.int .i64 (s.jK L 1000).1)) (fun i hi h=>by have:=(ey ho8 hi).1;have h':i=X6:=h;omega);have HO9:=V ho9;clear hr Nn ho8 ho9;go_wp2_with fail;refine Nv.out _ _ ?_;unfold uO;refine⟨_,⟨_,_,_,_⟩,_,rfl,Oj.out.AX _,⟨HO9.out.fH fm,fun b n c e=>?_⟩,HI.out⟩;have:=HO9.out.block b n c e;exact⟨by omega,this.2⟩
  ·skip
   clear hz MO L7 NG N8;have HI:=V (show IR.get L c0.toNat ⟨1,0⟩=(⟨c0.toNat,(IR.jK L 1000 ⟨1,0⟩).1,0,[]⟩,(IR.jK L 1000 ⟨1,0⟩).2.zero L)by unfold IR.get;rw [HF.out];rfl);go_wp2_with fail;refine(lf w w5 R a cap L ⟨1,0⟩ HG.out.1 1000).mono ?_;rintro e w8 ⟨rfl,hr,hk⟩;have Oj:=V (HG.out.read hr hk);obtain⟨⟨e0',e1',e2',e3'⟩,-,y1',y2',y3'⟩:=Oj.out.2.1.four;clear hr hk e0 e1 e2 e3 y1 y2 y3;have hg9:=Oj.out.AX (IR.jK L 1000 ⟨1,0⟩).1;go_wp2_with fail;generalize(w8.setCell ⟨X6,1,none⟩ (.int .i64 (IR.jK L 1000 ⟨1,0⟩).1))=w9 at hg9⊢;refine(uH w w9 R a cap L _ hg9.1).mono ?_;rintro e w10 ⟨rfl,hr,hk⟩;have HG10:=V (hg9.read hr hk);clear hr hk hg9 e0' e1' e2' e3' y1' y2' y3';go_wp2_with fail;refine Nv.out _ _ ?_;unfold uO;exact⟨_,⟨_,_,_,_⟩,_,rfl,HG10.out,⟨ee.nil _,fun _ _ _ h=>by cases h⟩,HI.out⟩
  ·skip
   clear hz MO L7 NG N8;have HI:=V (show IR.get L c0.toNat ⟨1,0⟩=(⟨c0.toNat,(IR.jK L 3 ⟨1,0⟩).1,((IR.jK L 3 ⟨1,0⟩).2.jK L 4294967295).1,[]⟩,((IR.jK L 3 ⟨1,0⟩).2.jK L 4294967295).2)by unfold IR.get;rw [HF.out];rfl);go_wp2_with fail;refine(lf w w5 R a cap L ⟨1,0⟩ HG.out.1 3).mono ?_;rintro e w8 ⟨rfl,hr,hk⟩;have Oj:=V (HG.out.read hr hk);obtain⟨⟨e0',e1',e2',e3'⟩,-,y1',y2',y3'⟩:=Oj.out.2.1.four;clear hr hk e0 e1 e2 e3 y1 y2 y3;have hg9:=Oj.out.AX (IR.jK L 3 ⟨1,0⟩).1;go_wp2_with fail;generalize(w8.setCell ⟨X6,1,none⟩ (.int .i64 (IR.jK L 3 ⟨1,0⟩).1))=w9 at hg9⊢;refine(lf w w9 R a cap L _ hg9.1 4294967295).mono ?_;rintro e w10 ⟨rfl,hr,hk⟩;have HG10:=V (hg9.read hr hk);obtain⟨⟨e0,e1,e2,e3⟩,-,y1,y2,y3⟩:=HG10.out.2.1.four;clear hr hk hg9 e0' e1' e2' e3' y1' y2' y3';go_wp2_with fail;refine Nv.out _ _ ?_;unfold uO;exact⟨_,⟨_,_,_,_⟩,_,rfl,HG10.out.KR _,⟨ee.nil _,fun _ _ _ h=>by cases h⟩,HI.out⟩
  ·skip
   clear hz MO L7 NG N8;have HI:=V (show IR.get L c0.toNat ⟨1,0⟩=(⟨c0.toNat,0,0,[]⟩,IR.zero L ⟨1,0⟩)by unfold IR.get;rw [HF.out];rfl);go_wp2_with fail;refine(uH w w5 R a cap L ⟨1,0⟩ HG.out.1).mono ?_;rintro e w8 ⟨rfl,hr,hk⟩;have Oj:=V (HG.out.read hr hk);clear hr hk e0 e1 e2 e3 y1 y2 y3;go_wp2_with fail;refine Nv.out _ _ ?_;unfold uO;exact⟨_,⟨_,_,_,_⟩,_,rfl,Oj.out,⟨ee.nil _,fun _ _ _ h=>by cases h⟩,HI.out⟩
  ·skip
   clear hz MO L7 NG N8;have HI:=V (show IR.get L c0.toNat ⟨1,0⟩=(⟨c0.toNat,(IR.qk L 32 ⟨1,0⟩).1,0,[]⟩,(IR.qk L 32 ⟨1,0⟩).2)by unfold IR.get;rw [HF.out];rfl);go_wp2_with fail;refine(wS w w5 R a cap L ⟨1,0⟩ HG.out.1 rfl 32 (by decide) (by decide)).mono ?_;rintro e w8 ⟨rfl,hr,hk⟩;have Oj:=V (HG.out.read hr hk);obtain⟨⟨e0',e1',e2',e3'⟩,-,y1',y2',y3'⟩:=Oj.out.2.1.four;clear hr hk e0 e1 e2 e3 y1 y2 y3;go_wp2_with fail;refine Nv.out _ _ ?_;unfold uO;exact⟨_,⟨_,_,_,_⟩,_,rfl,Oj.out.AX _,⟨ee.nil _,fun _ _ _ h=>by cases h⟩,HI.out⟩
  ·skip
   clear hz MO L7 NG N8;have HI:=V (show IR.get L c0.toNat ⟨1,0⟩=(⟨c0.toNat,(IR.qk L 64 ⟨1,0⟩).1,0,[]⟩,(IR.qk L 64 ⟨1,0⟩).2)by unfold IR.get;rw [HF.out];rfl);go_wp2_with fail;refine(wS w w5 R a cap L ⟨1,0⟩ HG.out.1 rfl 64 (by decide) (by decide)).mono ?_;rintro e w8 ⟨rfl,hr,hk⟩;have Oj:=V (HG.out.read hr hk);obtain⟨⟨e0',e1',e2',e3'⟩,-,y1',y2',y3'⟩:=Oj.out.2.1.four;clear hr hk e0 e1 e2 e3 y1 y2 y3;go_wp2_with fail;refine Nv.out _ _ ?_;unfold uO;exact⟨_,⟨_,_,_,_⟩,_,rfl,Oj.out.AX _,⟨ee.nil _,fun _ _ _ h=>by cases h⟩,HI.out⟩
end
section
section
variable {w:World} {X:Nat} {t:TypeId}
theorem eD.lq {k n:Int} (h:eD w X #[.int .i64 k, .int .i64 n] t):(loadVar 52 ⟨X,0,none⟩).run prog w= .ok (.agg #[.int .i64 k, .int .i64 n]) w:=by
 have hs:(prog.underlying 52).map (fun d=>match d with | .struct _ | .array _ _=>true | _=>false)=some true:=by kernel_rfl
 obtain⟨d,h1,h2⟩:=bu.1 hs;exact bU w X t 52 _ _ d h h1 (by cases d <;>first | rfl | (exfalso;simp at h2)) (by kernel_rfl)
theorem eD.pN {b:Bool} {k n:Int} (h:eD w X #[.bool b, .int .i64 k, .int .i64 n] t):(loadVar 28 ⟨X,0,none⟩).run prog w= .ok (.agg #[.bool b, .int .i64 k, .int .i64 n]) w:=by
 have hs:(prog.underlying 28).map (fun d=>match d with | .struct _ | .array _ _=>true | _=>false)=some true:=by kernel_rfl
 obtain⟨d,h1,h2⟩:=bu.1 hs;exact bU w X t 28 _ _ d h h1 (by cases d <;>first | rfl | (exfalso;simp at h2)) (by kernel_rfl)
theorem eD.kr {u v:Value} (h:eD w X #[u,v] t):(loadVar 69 ⟨X,0,none⟩).run prog w= .ok (.agg #[u,v]) w:=by
 have hs:(prog.underlying 69).map (fun d=>match d with | .struct _ | .array _ _=>true | _=>false)=some true:=by kernel_rfl
 obtain⟨d,h1,h2⟩:=bu.1 hs;exact bU w X t 69 _ _ d h h1 (by cases d <;>first | rfl | (exfalso;simp at h2)) (by kernel_rfl)
theorem eD.Ic {a b:ByteArray} {n:Int} (h:eD w X #[.string a, .string b, .int .i64 n] t):(loadVar 71 ⟨X,0,none⟩).run prog w= .ok (.agg #[.string a, .string b, .int .i64 n]) w:=by
 have hs:(prog.underlying 71).map (fun d=>match d with | .struct _ | .array _ _=>true | _=>false)=some true:=by kernel_rfl
 obtain⟨d,h1,h2⟩:=bu.1 hs;exact bU w X t 71 _ _ d h h1 (by cases d <;>first | rfl | (exfalso;simp at h2)) (by kernel_rfl)
theorem eD.Ga {b:Bool} {k n:Int} (h:eD w X #[.bool b, .int .i64 k, .int .i64 n] t):(loadVar 73 ⟨X,0,none⟩).run prog w= .ok (.agg #[.bool b, .int .i64 k, .int .i64 n]) w:=by
 have hs:(prog.underlying 73).map (fun d=>match d with | .struct _ | .array _ _=>true | _=>false)=some true:=by kernel_rfl
 obtain⟨d,h1,h2⟩:=bu.1 hs;exact bU w X t 73 _ _ d h h1 (by cases d <;>first | rfl | (exfalso;simp at h2)) (by kernel_rfl)
theorem eD.IL {a:ByteArray} {n:Int} (h:eD w X #[.string a, .int .i64 n] t):(loadVar 75 ⟨X,0,none⟩).run prog w= .ok (.agg #[.string a, .int .i64 n]) w:=by
 have hs:(prog.underlying 75).map (fun d=>match d with | .struct _ | .array _ _=>true | _=>false)=some true:=by kernel_rfl
 obtain⟨d,h1,h2⟩:=bu.1 hs;exact bU w X t 75 _ _ d h h1 (by cases d <;>first | rfl | (exfalso;simp at h2)) (by kernel_rfl)
theorem eD.As {n:Int} {v:Value} (h:eD w X #[.int .i64 n,v] t):(loadVar 77 ⟨X,0,none⟩).run prog w= .ok (.agg #[.int .i64 n,v]) w:=by
 have hs:(prog.underlying 77).map (fun d=>match d with | .struct _ | .array _ _=>true | _=>false)=some true:=by kernel_rfl
 obtain⟨d,h1,h2⟩:=bu.1 hs;exact bU w X t 77 _ _ d h h1 (by cases d <;>first | rfl | (exfalso;simp at h2)) (by kernel_rfl)
theorem eD.tB {u v:Value} (h:eD w X #[u,v] t):(loadVar 41 ⟨X,0,none⟩).run prog w= .ok (.agg #[u,v]) w:=by
 have hs:(prog.underlying 41).map (fun d=>match d with | .struct _ | .array _ _=>true | _=>false)=some true:=by kernel_rfl
 obtain⟨d,h1,h2⟩:=bu.1 hs;exact bU w X t 41 _ _ d h h1 (by cases d <;>first | rfl | (exfalso;simp at h2)) (by kernel_rfl)
theorem eD.Fw {n:Int} {v:Value} (h:eD w X #[.int .i64 n,v] t):(loadVar 106 ⟨X,0,none⟩).run prog w= .ok (.agg #[.int .i64 n,v]) w:=by
 have hs:(prog.underlying 106).map (fun d=>match d with | .struct _ | .array _ _=>true | _=>false)=some true:=by kernel_rfl
 obtain⟨d,h1,h2⟩:=bu.1 hs;exact bU w X t 106 _ _ d h h1 (by cases d <;>first | rfl | (exfalso;simp at h2)) (by kernel_rfl)
theorem eD.two {x0 x1:Value} (h:eD w X #[x0,x1] t):w.cell? ⟨X,0,none⟩=some x0/\w.cell? ⟨X,1,none⟩=some x1/\w.frozen? ⟨X,0,none⟩=false/\w.frozen? ⟨X,1,none⟩=false:=⟨h.cell 0,h.cell 1,h.free 0,h.free 1⟩
theorem eD.Hd {x0 x1 x2:Value} (h:eD w X #[x0,x1,x2] t):w.cell? ⟨X,0,none⟩=some x0/\w.cell? ⟨X,1,none⟩=some x1/\w.cell? ⟨X,2,none⟩=some x2/\w.frozen? ⟨X,0,none⟩=false/\w.frozen? ⟨X,1,none⟩=false/\w.frozen? ⟨X,2,none⟩=false:=⟨h.cell 0,h.cell 1,h.cell 2,h.free 0,h.free 1,h.free 2⟩
theorem eD.mL {x0 x1:Value} (h:eD w X #[x0,x1] t) (y0 y1:Value):eD ((w.setCell ⟨X,0,none⟩ y0).setCell ⟨X,1,none⟩ y1) X #[y0,y1] t:=by simpa using (h.set 0 y0).set 1 y1
theorem eD.vr {x0 x1 x2:Value} (h:eD w X #[x0,x1,x2] t) (y0 y1 y2:Value):eD (((w.setCell ⟨X,0,none⟩ y0).setCell ⟨X,1,none⟩ y1).setCell ⟨X,2,none⟩ y2) X #[y0,y1,y2] t:=by simpa using ((h.set 0 y0).set 1 y1).set 2 y2
theorem ei (w:World) (X i:Nat) (v:Value):dU (fun k=>k=X) w (w.setCell ⟨X,i,none⟩ v):=⟨rfl,rfl,rfl,by simp,fun k _ hk=>cH w ⟨X,i,none⟩ v k hk⟩
theorem fp (w:World) (X:Nat) (y0 y1:Value):dU (fun k=>k=X) w ((w.setCell ⟨X,0,none⟩ y0).setCell ⟨X,1,none⟩ y1):=(ei w X 0 y0).trans (ei _ X 1 y1) (fun _ h=> .inl h)
theorem kp (w:World) (X:Nat) (y0 y1 y2:Value):dU (fun k=>k=X) w (((w.setCell ⟨X,0,none⟩ y0).setCell ⟨X,1,none⟩ y1).setCell ⟨X,2,none⟩ y2):=(fp w X y0 y1).trans (ei _ X 2 y2) (fun _ h=> .inl h)
theorem dU.iJ {w w' w2:World} {R:Nat} (h:dU (fun k=>k=R) w w') {Y:Nat} (hk:dU (fun k=>k=Y) w' w2) (hY:w.heap.size <=Y):dU (fun k=>k=R) w w2:=h.trans hk (fun i hi=> .inr (by subst hi;exact hY))
end
end
section
def xV (x:mJ):List Value:=[.int .i64 x.op, .int .i64 x.kind, .int .i64 x.eJ, .bool x.dead]
theorem jt (x:mJ):(xV x).length=4:=rfl
theorem E5 (x:mJ):∀u∈xV x,u.oneCell'=true:=by
 intro u hu;simp only [xV,bH,bP,da]at hu;rcases hu with rfl | rfl | rfl | rfl <;>rfl
theorem vZ:(prog.info? 191).map (fun i=>(i.zero,i.size,i.bytes))=some (some (.agg #[.int .i64 0, .int .i64 0, .int .i64 0, .bool false]),4,32):=by kernel_rfl
section
variable {α:Type} {k:Nat} {enc:α ->List Value} {t:TypeId}
theorem tz (hk:∀x,(enc x).length=k):∀(l:List α) (n:Nat),(l.take n).flatMap enc=(l.flatMap enc).take (n*k)
 | [],n=>by simp
 | x::l,0=>by simp
 | x::l,n+1=>by
  rw [List.take_succ_cons,bL,bL,tz hk l n,List.take_append,dd (l:=enc x) (i:=(n+1)*k) (by rw [hk,cS];omega)]
  congr 2
  rw [hk,cS];omega
theorem dS.take {w:World} {B:Nat} {a:Option Addr} {n cap:Nat} {l:List α} (hk:∀x,(enc x).length=k) (h:dS t k enc w B (.slice a n cap) l) (m:Nat) (hm:m <=l.length):dS t k enc w B (.slice a m cap) (l.take m):=by
 obtain⟨hl,hv | ⟨g,LQ,cur,hv,hb,hg,hn,hx,hs,ht⟩⟩:=h
 ·obtain⟨hv,h0⟩:=hv
  injection hv with e1 e2 e3;subst e1 e2 e3;obtain rfl:=aH h0;obtain rfl:m=0:=by simpa using hm
  exact dS.nil _ _
 ·injection hv with e1 e2 e3
  subst e1 e2 e3;have hlen:(l.take m).length=m:=by rw [aP];omega
  refine⟨by rw [jH hk], .inr ⟨g,cap,cur,by rw [hlen],hb,hg,by rw [hlen];omega,hx,hs,?_⟩⟩;rw [hlen,tz hk, <- ht,List.take_take]
  congr 1
  have:m*k <=l.length*k:=cK k hm;omega
theorem dS.slice {w:World} {B:Nat} {v:Value} {l:List α} (h:dS t k enc w B v l):∃a cap,v= .slice a l.length cap/\l.length <=cap/\cap <=9223372036854775807:=by
 obtain⟨_,hv | ⟨g,cap,cur,hv,hb,hg,hn,hm,hs,ht⟩⟩:=h
 ·exact⟨none,0,by rw [hv.1,hv.2],by rw [hv.2];exact ag _,by omega⟩
 ·exact⟨_,cap,hv,hn,by simpa [maxLen] using hm⟩
theorem dS.same {a:Option Addr} {n n' cap:Nat}:∀i,ez (.slice a n cap) i↔ez (.slice a n' cap) i:=fun i=>by
 cases a <;>simp [ez,Value.ownBlock]
end
end
def fG (w0 w:World) (R:Nat) (st:gA):Prop:=
 ∃a l cap bad,eD w R #[.slice a (List.length l) cap, .bool bad] 196/\eG w0 (.slice a l.length cap) l/\l.length <=8000/\st=(if bad=true then none else some l)/\Below w0.heap.size w0 w/\w0.heap.size <=R
theorem fG.keeps {w0 w w':World} {R:Nat} {st:gA} {S:Nat ->Prop} (h:fG w0 w R st) (hk:dU S w w') (hR:¬ S R) (hS:∀i,S i ->w0.heap.size <=i):fG w0 w' R st:=by
 obtain⟨a,l,cap,bad,h1,h2,h3,h4,h5,h6⟩:=h;exact⟨a,l,cap,bad,h1.keeps hk hR,h2,h3,h4,h5.trans (hk.below h5.size hS),h6⟩
theorem fG.below {w0 w w':World} {R:Nat} {st:gA} (h:fG w0 w R st) (hk:Below w.heap.size w w'):fG w0 w' R st:=by
 obtain⟨a,l,cap,bad,h1,h2,h3,h4,h5,h6⟩:=h;exact⟨a,l,cap,bad,h1.below hk h1.lt,h2,h3,h4,h5.trans (hk.mono h5.size),h6⟩
theorem fG.drew {w0 w:World} {R:Nat} {st:gA} (h:fG w0 w R st):fG w0 w.drew R st:=by
 obtain⟨a,l,cap,bad,h1,h2,h3,h4,h5,h6⟩:=h;exact⟨a,l,cap,bad,h1.drew,h2,h3,h4,h5.drew,h6⟩
theorem fG.alloc {w0 w:World} {R:Nat} {st:gA} (h:fG w0 w R st) (o:Obj):fG w0 (w.alloc o) R st:=h.below ((an _ _).alloc (ag _) o)
theorem fG.bad {w0 w:World} {R:Nat} {st:gA} (h:fG w0 w R st):w.cell? ⟨R,1,none⟩=some (.bool st.isNone):=by
 obtain⟨a,l,cap,bad,h1,h2,h3,h4,h5,h6⟩:=h;rw [show w.cell? ⟨R,1,none⟩=some (.bool bad)from h1.cell 1,h4];cases bad <;>rfl
theorem fG.lt {w0 w:World} {R:Nat} {st:gA} (h:fG w0 w R st):R < w.heap.size:=by
 obtain⟨a,l,cap,bad,h1,h2,h3,h4,h5,h6⟩:=h;exact h1.lt
theorem fG.old {w0 w:World} {R:Nat} {st:gA} (h:fG w0 w R st):Below w0.heap.size w0 w/\w0.heap.size <=R:=by
 obtain⟨a,l,cap,bad,h1,h2,h3,h4,h5,h6⟩:=h;exact⟨h5,h6⟩
theorem fG.len {w0 w:World} {R:Nat} {st:gA} (h:fG w0 w R st):st.len <=8001:=by
 obtain⟨a,l,cap,bad,h1,h2,h3,h4,h5,h6⟩:=h;subst h4;cases bad
 ·show l.length+1 <=8001
  omega
 ·show 0 <=8001
  omega
def zn (w0 w:World) (R:Nat) (v:Value) (st:gA) (e:Ending) (w':World):Prop:=e= .returned v/\fG w0 w' R st/\dU (fun k=>k=R) w w'
theorem tv {L:List UInt8} (n:Nat) (hn:n <=L.length) (a:Option Addr) (cap:Nat):∃a2 LA,
  (∀wx,(Instr.slice 104 (.slice a L.length cap) (some (.int .i64 n)) none none).run prog wx= .ok (.slice a2 (L.drop n).length LA) wx)/\
  (∀wy,eG wy (.slice a L.length cap) L ->eG wy (.slice a2 (L.drop n).length LA) (L.drop n)):=by
 have h:=nY (cB n L).symm a cap;rw [aP,cm hn]at h;obtain⟨a2,LA,h1,h2,_⟩:=h;exact⟨a2,LA,h1,h2⟩
def il (n:Nat) (ok:Bool) (st:gA):gA:=st.bind fun l=>if ok=true/\n <=l.length then some (l.drop n)else none
theorem kt (w0 w:World) (R:Nat) (st:gA) (n:Nat) (ok:Bool) (hn:n <=9223372036854775807) (h:fG w0 w R st):
  Calls prog 120 #[.pointer (some ⟨R,0,none⟩), .int .i64 n, .bool ok] w (zn w0 w R (.tuple #[]) (il n ok st)):=by
 obtain⟨a,l,cap,bad,LN,hl,hlen,LS,LR,Po⟩:=h;have MA:=V LN;have HL:=V hl;have PD:=V LR;have Pv:=V Po;have c0:w.cell? ⟨R,0,none⟩=some (.slice a l.length cap):=LN.cell 0;have c1:w.cell? ⟨R,1,none⟩=some (.bool bad):=LN.cell 1;have z0:=LN.free 0;have z1:=LN.free 1;clear LN hl LR Po;subst LS;cases bad with
 | true=>
  have HS:Hid (il n ok (if true=true then none else some l)=(if true=true then none else some l)):=V rfl;go_enter func120,ntmps120;go_wp2
  go_end0
  exact⟨rfl,⟨a,l,cap,true,by simpa using MA.out.set 1 (.bool true),HL.out,hlen,HS.out,PD.out.setCell Pv.out _,Pv.out⟩,fc _ R 1 _⟩
 | false=>
  cases ok with
  | false=>
   have HS:Hid (il n false (if false=true then none else some l)=(if true=true then none else some l)):=V rfl;go_enter func120,ntmps120;go_wp2
   go_end0
   exact⟨rfl,⟨a,l,cap,true,by simpa using MA.out.set 1 (.bool true),HL.out,hlen,HS.out,PD.out.setCell Pv.out _,Pv.out⟩,fc _ R 1 _⟩
  | true=>
   by_cases q:n <=l.length
   ·have f1:decide (l.length < n)=false:=aw (by omega)
    have HS:Hid (il n true (if false=true then none else some l)=(if false=true then none else some (l.drop n))):=V (by simp [il,q]);have HD:Hid ((l.drop n).length <=8000):=V (by rw [bg];omega);obtain⟨a2,LA,LJ,hi⟩:=tv n q a cap;have HI:=V hi;clear q hi;go_enter func120,ntmps120;go_wp2
    go_end0
    exact⟨rfl,⟨a2,l.drop n,LA,false,by simpa using (MA.out.set 1 (.bool false)).set 0 (.slice a2 (l.drop n).length LA),HI.out _ HL.out,HD.out,HS.out,(PD.out.setCell Pv.out _).setCell Pv.out _,Pv.out⟩,(fc _ R 1 _).trans (fc _ R 0 _) (fun _ h=> .inl h)⟩
   ·have f1:decide (l.length < n)=true:=ay (by omega)
    have HS:Hid (il n true (if false=true then none else some l)=(if true=true then none else some l)):=V (by simp [il,q]);clear q;go_enter func120,ntmps120;go_wp2
    go_end0
    exact⟨rfl,⟨a,l,cap,true,by simpa using MA.out.set 1 (.bool true),HL.out,hlen,HS.out,PD.out.setCell Pv.out _,Pv.out⟩,fc _ R 1 _⟩
def jj (st:gA):Nat:=((st.bind fX).map (·.1)).getD 0
theorem mF (st:gA):gO fX st (jj st):=fun y hy=>by rw [jj,hy];rfl
theorem wK (l:List UInt8):(gZ 32 l).1 < 4294967296:=by
 unfold gZ;split
 ·simp
 ·split
  ·rename_i h
   have:(2:Nat)^(32:Int).toNat=4294967296:=by decide
   omega
  ·simp
theorem lz (st:gA):jj st < 4294967296:=by
 unfold jj;cases st with
 | none=>simp
 | some l=>
  simp only [ao];unfold fX;split
  ·exact wK l
  ·simp
theorem jI (w0 w:World) (R:Nat) (st:gA) (h:fG w0 w R st):Calls prog 122 #[.pointer (some ⟨R,0,none⟩)] w (zn w0 w R (.int .i64 (jj st)) (et fX st)):=by
 have HH:=V h;obtain⟨a,l,cap,bad,LN,hl,hlen,LS,LR,Po⟩:=h;have c0:w.cell? ⟨R,0,none⟩=some (.slice a l.length cap):=LN.cell 0;have HL:=V (hl.below LR);obtain⟨x,k,err,hr⟩:∃x k err,gZ 32 l=(x,k,err):=⟨_,_,_,rfl⟩;have hx:=wK l;have hk:=xP 32 l;rw [hr]at hx hk;simp only at hx hk;have HN:Hid (et fX st=il k (err==0) st):=V (by
  rw [LS];cases bad with
  | true=>rfl
  | false=>
   simp only [et,fX,il,hr,bW,dD,ao];by_cases q:err=0
   ·rw [aD q,aD ⟨by simp [q],hk⟩]
    rfl
   ·rw [az q,az (by simp [q])]
    rfl)
 have HV:Hid (jj st=if(il k (err==0) st).isNone=true then 0 else x):=V (by
  rw [<- HN.out,LS];cases bad with
  | true=>rfl
  | false=>
   simp only [et,fX,jj,hr,bW,dD,ao];by_cases q:err=0
   ·rw [aD q];rfl
   ·rw [az q];rfl)
 clear LN hl LS LR Po;go_enter func122,ntmps122;go_wp2_with fail;refine(uy _ l 32 _ HL.out (by omega) (by omega)).mono ?_;rintro e w1 ⟨rfl,hb⟩;rw [hr];have HB:=V (dU.dW (S:=fun k=>k=R) hb);have HH1:=V (HH.out.below hb);clear hr hb c0;go_wp2_with fail;refine(kt w0 w1 R _ k (err==0) (by omega) HH1.out).mono ?_;rintro e w2 ⟨rfl,h2,LH⟩;have c1:=h2.bad;rw [<- HN.out]at h2;have HH2:=V h2;have HK:=V (HB.out.trans LH (fun _ h=> .inl h));clear h2 LH HB;cases hq:(il k (err==0) st).isNone
 ·rw [hq]at c1
  have HV:=V (show jj st=x by have:=HV.out;rw [hq]at this;exact this);clear hq;go_wp2;go_ret;exact⟨by rw [HV.out];rfl,HH2.out,HK.out⟩
 ·rw [hq]at c1
  have HV:=V (show jj st=0 by have:=HV.out;rw [hq]at this;exact this);clear hq;go_wp2;go_ret;exact⟨by rw [HV.out];rfl,HH2.out,HK.out⟩
def mv (st:gA):UInt8:=((st.bind eV).map (·.1)).getD 0
theorem ml (st:gA):gO eV st (mv st):=fun y hy=>by rw [mv,hy];rfl
theorem iM (w0 w:World) (R:Nat) (st:gA) (h:fG w0 w R st):Calls prog 121 #[.pointer (some ⟨R,0,none⟩)] w (zn w0 w R (bv (mv st)) (et eV st)):=by
 obtain⟨a,l,cap,bad,LN,hl,hlen,LS,LR,Po⟩:=h;have MA:=V LN;have HL:=V hl;have PD:=V LR;have Pv:=V Po;have c0:w.cell? ⟨R,0,none⟩=some (.slice a l.length cap):=LN.cell 0;have c1:w.cell? ⟨R,1,none⟩=some (.bool bad):=LN.cell 1;have z0:=LN.free 0;have z1:=LN.free 1;clear LN hl LR Po;subst LS;cases bad with
 | true=>
  go_enter func121,ntmps121;go_wp2;go_ret;exact⟨rfl,⟨a,l,cap,true,by simpa using MA.out.set 1 (.bool true),HL.out,hlen,rfl,PD.out.setCell Pv.out _,Pv.out⟩,fc _ R 1 _⟩
 | false=>
  cases l with
  | nil=>
   have f1:((([]:List UInt8).length:Int)==0)=true:=rfl;go_enter func121,ntmps121;go_wp2;go_ret;exact⟨rfl,⟨a,[],cap,true,by simpa using MA.out.set 1 (.bool true),HL.out,hlen,rfl,PD.out.setCell Pv.out _,Pv.out⟩,fc _ R 1 _⟩
  | cons c r=>
   obtain⟨L,hL⟩:∃L,L=c::r:=⟨_,rfl⟩;rw [<- hL]at c0 MA HL hlen⊢;have PX:0 < L.length:=by rw [hL];simp
   have f1:((L.length:Int)==0)=false:=dR (by omega);have HV:Hid (mv (some L)=c):=V (by rw [hL];rfl);have HS:Hid (et eV (some L)=(if false=true then none else some (L.drop 1))):=V (by rw [hL];rfl);have HD:Hid ((L.drop 1).length <=8000):=V (by rw [bg];omega);obtain⟨a2,LA,LJ,hi⟩:=tv (L:=L) 1 (by omega) a cap;obtain⟨_,_,OE,-,-,Lt⟩:=id (HL.out.below PD.out);injection OE with e1 e2 e3;subst e1 e3;obtain⟨g,off,rfl,hg⟩:=Lt 0 c (by rw [hL];rfl);rw [aI]at hg;have HI:=V hi;have hrun1:∀wx,(Instr.slice 104 (.slice (some ⟨g,off,none⟩) L.length cap) (some (.int .i64 1)) none none).run prog wx= .ok (.slice a2 (L.drop 1).length LA) wx:=fun wx=>LJ wx;clear hi Lt e2 hL LJ;go_enter func121,ntmps121;go_wp2;go_ret;exact⟨by rw [HV.out];rfl,⟨a2,L.drop 1,LA,false,by simpa using MA.out.set 0 (.slice a2 (L.drop 1).length LA),HI.out _ HL.out,HD.out,HS.out,PD.out.setCell Pv.out _,Pv.out⟩,fc _ R 0 _⟩
def nC (st:gA):Int:=((st.bind gz).map (·.1)).getD 0
theorem xi (st:gA):gO gz st (nC st):=fun y hy=>by rw [nC,hy];rfl
theorem zh (st:gA):et gz st=(if(mv st).toNat=127\/(mv st).toNat=126 then et eV st else none)/\nC st=(if(mv st).toNat=127 then 1 else if(mv st).toNat=126 then 2 else 0):=by
 match st with
 | none=>exact⟨rfl,rfl⟩
 | some []=>exact⟨rfl,rfl⟩
 | some (c::l)=>
  have hb:mv (some (c::l))=c:=rfl;rw [hb];by_cases q1:c.toNat=127
  ·obtain rfl:c=127:=du.1 q1
   exact⟨rfl,rfl⟩
  ·by_cases q2:c.toNat=126
   ·obtain rfl:c=126:=du.1 q2
    exact⟨rfl,rfl⟩
   ·have hn:gz (c::l)=none:=by
     unfold gz;split
     ·rename_i h;injection h with h;subst h;exact absurd rfl q1
     ·rename_i h;injection h with h;subst h;exact absurd rfl q2
     ·rfl
    simp only [et,nC,ao,hn,q1,q2,or_self,dD];exact⟨rfl,rfl⟩
theorem tS (w0 w:World) (R:Nat) (st:gA) (h:fG w0 w R st):Calls prog 283 #[.pointer (some ⟨R,0,none⟩)] w (zn w0 w R (.int .i64 (nC st)) (et gz st)):=by
 have HH:=V h;obtain⟨hn,hv⟩:=zh st;have HN:=V hn;have HV:=V hv;obtain⟨c,hc⟩:∃c,mv st=c:=⟨_,rfl⟩;have HC:=V hc;have hc8:=c.toNat_lt;clear h hn hv hc;go_enter func283,ntmps283;go_wp2_with fail;refine(iM w0 w R st HH.out).mono ?_;rintro e w1 ⟨rfl,h1,hk⟩;rw [HC.out];have HH1:=V h1;have HK:=V hk;by_cases q1:c.toNat=127
 ·have f1:((c.toNat:Int)==127)=true:=eI (by omega)
  have HN:=V (show et gz st=et eV st by rw [HN.out,HC.out,aD (.inl q1)]);have HV:=V (show nC st=1 by rw [HV.out,HC.out,aD q1]);clear q1 h1 hk;go_wp2;go_ret;exact⟨by rw [HV.out];rfl,by rw [HN.out];exact HH1.out,HK.out⟩
 ·have f1:((c.toNat:Int)==127)=false:=dR (by omega)
  by_cases q2:c.toNat=126
  ·have f2:((c.toNat:Int)==126)=true:=eI (by omega)
   have HN:=V (show et gz st=et eV st by rw [HN.out,HC.out,aD (.inr q2)]);have HV:=V (show nC st=2 by rw [HV.out,HC.out,az q1,aD q2]);clear q1 q2 h1 hk;go_wp2;go_ret;exact⟨by rw [HV.out];rfl,by rw [HN.out];exact HH1.out,HK.out⟩
  ·have f2:((c.toNat:Int)==126)=false:=dR (by omega)
   have HN:=V (show et gz st=none by rw [HN.out,HC.out,az (by omega)]);have HV:=V (show nC st=0 by rw [HV.out,HC.out,az q1,az q2]);obtain⟨a,l,cap,bad,LN,hl,hlen,-,LR,Po⟩:=h1;have z1:=LN.free 1;have MA:=V LN;have HL:=V hl;have PD:=V LR;have c1:w1.cell? ⟨R,1,none⟩=some (.bool bad):=LN.cell 1;clear q1 q2 hk LN hl LR;go_wp2;go_ret;exact⟨by rw [HV.out];rfl,by rw [HN.out];exact⟨a,l,cap,true,by simpa using MA.out.set 1 (.bool true),HL.out,hlen,rfl,PD.out.setCell Po _,Po⟩,HK.out.trans (fc _ R 1 _) (fun _ h=> .inl h)⟩
theorem vJ (a:Option Addr) (len cap k:Nat) (h:k <=cap) (wx:World):
  (Instr.slice 104 (.slice a len cap) none (some (.int .i64 k)) none).run prog wx= .ok (.slice a k cap) wx:=by
 have hu:prog.underlying 104=some (.slice 5):=by kernel_rfl
 obtain⟨i0,hi,NM,ME,Nd⟩:=bV nV;simp [Instr.slice,bj hu,Instr.sliceBounds,Instr.sliceBound,sizeOf,typeInfo,hi,asIntOf,h];cases a <;>simp [Addr.add]
theorem ed.empty (w:World):ed (w.alloc (.cells #[] 5)) w.heap.size (.slice (some ⟨w.heap.size,0,none⟩) 0 0) []:=
 ⟨by simp, .inr ⟨w.heap.size,0,#[],rfl,ag _,dn w _,ag _,by simp [maxLen],by simp,by simp⟩⟩
theorem ed.base {w:World} {B B':Nat} {v:Value} {l:List UInt8} (h:ed w B v l) (hB:B' <=B):ed w B' v l:=my h (fun _ hk=>aQ hB (ey h hk).1)
def DE (l:List UInt8) (w:World) (e:Ending) (w':World):Prop:=∃v,e= .returned v/\ed w' w.heap.size v l/\Below w.heap.size w w'
theorem Bs (v:Value) (l:List UInt8) (w:World) (hl:eG w v l) (OV:l.length <=1000000):Calls prog 291 #[v] w (DE l w):=by
 obtain⟨a,cap,rfl,h1,h2,h3⟩:=id hl;unfold maxLen at h2;have HI:=V hl;cases a with
 | none=>
  obtain rfl:l=[]:=by
   cases l with
   | nil=>rfl
   | cons x l=>
    obtain⟨_,_,h,_⟩:=h3 0 x rfl;cases h
  clear h3 hl;have e1:=bK (P:=prog) w 104 5 none 0 cap 0 0 (by kernel_rfl);rw [dg]at e1;go_enter func291,ntmps291;go_wp2;go_ret;exact⟨_,rfl,ed.nil _ _,an _ _⟩
 | some ad=>
  clear h3 hl;have e1:=bK (P:=prog) w 104 5 (some ad) l.length cap 0 0 (by kernel_rfl);rw [df]at e1;have Me:=(an w.heap.size w).alloc (ag _) (.cells #[] 5);have HBO:=V Me;go_enter func291,ntmps291;go_wp2_with (first | (at_builtin;refine iB (w.alloc (.cells #[] 5)) rfl _ _ rfl rfl w.heap.size (.slice (some ⟨w.heap.size,0,none⟩) 0 0) [] rfl (ed.empty w) _ _ rfl (HI.out.below HBO.out) (by simp only [aL];omega) HBO.out.size ?_));intro v w' ho hk hs;have HB:=V (show Below w.heap.size w w' from HBO.out.trans (hk.below HBO.out.size (fun i hi=>by simp [ez,Value.ownBlock]at hi;omega)));have HO:=V ho;clear hk hs Me ho;go_wp2;go_ret;exact⟨v,rfl,by simpa using HO.out,HB.out⟩
def nG (st:gA):List UInt8:=((st.bind mb).map (·.1)).getD []
theorem yM (st:gA):gO mb st (nG st):=fun y hy=>by rw [nG,hy];rfl
theorem yE (st:gA):et mb st=il (jj st) true (et fX st):=by
 cases st with
 | none=>rfl
 | some l=>
  simp only [et,mb,jj,il,ao];cases h:fX l with
  | none=>rfl
  | some y=>
   simp only [ao,bq,dE,true_and];by_cases q:y.1 <=y.2.length
   ·rw [az (by omega),aD q];rfl
   ·rw [aD (by omega),az q];rfl
theorem AD {st:gA} (h:et mb st=none):nG st=[]:=by
 unfold et at h;unfold nG;cases hb:st.bind mb with
 | none=>rfl
 | some y=>rw [hb]at h;cases h
theorem yC {st:gA} {l r:List UInt8} (h1:et fX st=some l) (h:et mb st=some r):nG st=l.take (jj st)/\jj st <=l.length:=by
 cases st with
 | none=>cases h1
 | some q=>
  simp only [et,mb,jj,nG,ao]at*;cases hb:fX q with
  | none=>rw [hb]at h1;cases h1
  | some y=>
   rw [hb]at h1 h;simp only [ao,bq,aS]at h1 h;subst h1;by_cases q:y.2.length < y.1
   ·rw [aD q]at h;cases h
   ·simp only [ao,bq,dE]
    rw [az q];exact⟨rfl,by omega⟩
def JP (w0 w:World) (R:Nat) (st:gA) (e:Ending) (w':World):Prop:=
 ∃v,e= .returned v/\ed w' w.heap.size v (nG st)/\fG w0 w' R (et mb st)/\dU (fun k=>k=R) w w'
theorem zf {w0 w:World} {R:Nat} {st:gA} (h:fG w0 w R st):(nG st).length <=8000:=by
 have hl:=h.len;cases hn:et mb st with
 | none=>rw [AD hn];simp
 | some r=>
  cases h1:et fX st with
  | none=>rw [yE,h1]at hn;cases hn
  | some l=>
   obtain⟨h2,h3⟩:=yC h1 hn;have h4:=(jg.lJ kK).len st;rw [h1]at h4;simp only [gA.len]at h4 hl;rw [h2,aP];omega
theorem Cq (w0 w:World) (R:Nat) (st:gA) (h:fG w0 w R st):Calls prog 222 #[.pointer (some ⟨R,0,none⟩)] w (JP w0 w R st):=by
 have HH:=V h;have OM:=V (zf h);have hn:=lz st;have HNX:=V (yE st);have HNN:=V (@AD st);have HRS:Hid (∀l r:List UInt8,et fX st=some l ->et mb st=some r ->nG st=l.take (jj st)/\jj st <=l.length):=V (fun l r h1 h2=>yC h1 h2);obtain⟨n,en⟩:∃n,jj st=n:=⟨_,rfl⟩;obtain⟨s1,es⟩:∃s1,et fX st=s1:=⟨_,rfl⟩;rw [en]at hn;have EN:=V en;have ES:=V es;clear h en es;go_enter func222,ntmps222;go_wp2_with fail;refine(jI w0 w R st HH.out).mono ?_;rintro e w1 ⟨rfl,h1,hk⟩;rw [EN.out];rw [ES.out]at h1;have HH1:=V h1;have HK:=V hk;obtain⟨a,l,cap,bad,LN,hl,hlen,LS,LR,Po⟩:=h1;have c0:w1.cell? ⟨R,0,none⟩=some (.slice a l.length cap):=LN.cell 0;obtain⟨_,_,OE,QE,Nc,-⟩:=id hl;injection OE with e1 e2 e3;subst e1 e3;have HL:=V hl;have Lz:=V LS;clear hk LN hl LR LS Nc e2;go_wp2_with fail;refine(kt w0 w1 R s1 n true (by omega) HH1.out).mono ?_;rintro e w2 ⟨rfl,h2,hk⟩;have MC:et mb st=il n true s1:=by rw [HNX.out,EN.out,ES.out]
 rw [<- MC]at h2;have c1:=h2.bad;have HH2:=V h2;have Nv:=V (HK.out.trans hk (fun _ h=> .inl h));clear h2 hk c0 MC;cases hq:et mb st with
 | none=>
  rw [hq]at c1 HH2;have c1:w2.cell? ⟨R,1,none⟩=some (.bool true):=c1;have HV:=V (HNN.out hq);have HQ:=V hq;clear hq;go_wp2;go_ret;exact⟨_,rfl,by rw [HV.out];exact ed.nil _ _,by rw [HQ.out];exact HH2.out,Nv.out⟩
 | some r=>
  rw [hq]at c1 HH2;have c1:w2.cell? ⟨R,1,none⟩=some (.bool false):=c1;have MQ:s1=some l:=by
   rw [Lz.out];cases bad with
   | false=>rfl
   | true=>
    exfalso;have h3:=HNX.out;rw [ES.out,Lz.out,hq]at h3;cases h3
  obtain⟨hv,hle⟩:=HRS.out _ _ (by rw [ES.out,MQ]) hq;rw [EN.out]at hv hle;have HV:=V hv;have HQ:=V hq;have hln:n <=cap:=by omega
  have LJ:=fun wx=>vJ a l.length cap n hln wx;have HI:Hid (eG w2 (.slice a (nG st).length cap) (nG st)):=V (by
   have:=(HL.out.below HH2.out.old.1).take n hle;rw [<- hv]at this;have hz:(nG st).length=n:=by rw [hv,aP];omega
   rw [hz];exact this)
  have Rq:(nG st).length=n:=by rw [hv,aP];omega
  have Qk:=V Rq;clear hq hv MQ Rq;go_wp2_with fail;refine(Bs _ (nG st) w2 (by have:=HI.out;rw [Qk.out]at this;exact this) (aQ OM.out (by omega))).mono ?_;rintro e w3 ⟨v,rfl,ho,hb⟩;have HO:=V (ed.base ho Nv.out.size);have HH3:=V (HH2.out.below hb);have HK3:=V (Nv.out.trans (dU.dW (S:=fun _=>False) hb) (fun _ h=>h.elim));clear ho hb;go_wp2;go_ret;exact⟨_,rfl,HO.out,by rw [HQ.out];exact HH3.out,HK3.out⟩
def wJ (st:gA):ByteArray:=bs (nG st)
theorem r9 (st:gA):gO jm st (wJ st):=by rw [uh];exact fo (yM st)
theorem DL (st:gA):et jm st=et mb st:=by rw [uh,fh]
theorem uE (w0 w:World) (R:Nat) (st:gA) (h:fG w0 w R st):Calls prog 284 #[.pointer (some ⟨R,0,none⟩)] w (zn w0 w R (.string (wJ st)) (et jm st)):=by
 have HH:=V h;have HN:=V (DL st);clear h;go_enter func284,ntmps284;go_wp2_with fail;refine(Cq w0 w R st HH.out).mono ?_;rintro e w1 ⟨v,rfl,ho,h1,hk⟩;have LJ:=pO (ed.gl ho);have HH1:=V h1;have HK:=V hk;clear ho h1 hk;go_wp2;go_ret;exact⟨rfl,by rw [HN.out];exact HH1.out,HK.out⟩
def Wr (w:World) (b:Value) (B:Nat) (w':World) (v:Value) (L:List UInt8):Prop:=ed w' B v L/\dU (ez b) w w'/\eB w b v
theorem Wr.refl {w:World} {b:Value} {B:Nat} {L:List UInt8} (h:ed w B b L):Wr w b B w b L:=⟨h,dU.refl _ _,eB.refl _ _⟩
theorem Wr.step {w w1 w2:World} {b v1 v2:Value} {B:Nat} {L1 L2:List UInt8} (h:Wr w b B w1 v1 L1) (k:Wr w1 v1 B w2 v2 L2):Wr w b B w2 v2 L2:=
 ⟨k.1,h.2.1.trans k.2.1 (fun i hi=>h.2.2 i hi),h.2.2.trans k.2.2 h.2.1.size⟩
theorem Wr.alloc {w w1:World} {b v:Value} {B:Nat} {L:List UInt8} (h:Wr w b B w1 v L) (o:Obj):Wr w b B (w1.alloc o) v L:=⟨World.ownsRow.alloc h.1 _,h.2.1.alloc _,h.2.2⟩
theorem Wr.drew {w w1:World} {b v:Value} {B:Nat} {L:List UInt8} (h:Wr w b B w1 v L):Wr w b B w1.drew v L:=⟨h.1,h.2.1.drew,h.2.2⟩
theorem Wr.size {w w1:World} {b v:Value} {B:Nat} {L:List UInt8} (h:Wr w b B w1 v L):w.heap.size <=w1.heap.size:=h.2.1.size
theorem Wr.base {w w1:World} {b v:Value} {B:Nat} {L:List UInt8} (h:Wr w b B w1 v L) (hB:B <=w.heap.size):B <=w1.heap.size:=aQ hB h.size
theorem Wr.below {w w1 w2:World} {b v:Value} {B:Nat} {L:List UInt8} (h:Wr w b B w1 v L) (hb:Below w1.heap.size w1 w2):Wr w b B w2 v L:=
 ⟨ed.below h.1 hb,h.2.1.trans (dU.dW (S:=fun _=>False) hb) (fun _ hi=>hi.elim),h.2.2⟩
def Aside (w:World) (b:Value) (X:Nat) (cs:Array Value) (t:TypeId):Prop:=eD w X cs t/\¬ ez b X
theorem Aside.next {w w1:World} {b v:Value} {B:Nat} {L:List UInt8} {X:Nat} {cs:Array Value} {t:TypeId} (h:Aside w b X cs t) (k:Wr w b B w1 v L):Aside w1 v X cs t:=
 ⟨h.1.keeps k.2.1 h.2,fun g=>(k.2.2 X g).elim h.2 (fun g=>by have:=h.1.lt;omega)⟩
theorem Aside.new {w:World} {b:Value} {B:Nat} {L:List UInt8} (h:ed w B b L) (cs:Array Value) (t:TypeId):Aside (w.alloc (.cells cs t)) b w.heap.size cs t:=
 ⟨eD.new w cs t,fun g=>by have:=(ey h g).2;omega⟩
theorem Aside.alloc {w:World} {b:Value} {X:Nat} {cs:Array Value} {t:TypeId} (h:Aside w b X cs t) (o:Obj):Aside (w.alloc o) b X cs t:=⟨h.1.alloc o,h.2⟩
theorem Aside.drew {w:World} {b:Value} {X:Nat} {cs:Array Value} {t:TypeId} (h:Aside w b X cs t):Aside w.drew b X cs t:=⟨h.1.drew,h.2⟩
theorem Aside.cell {w:World} {b:Value} {X:Nat} {cs:Array Value} {t:TypeId} (h:Aside w b X cs t) (i:Nat):w.cell? ⟨X,i,none⟩=cs[i]?:=h.1.cell i
def Src (w0 w:World) (B:Nat):Prop:=Below w0.heap.size w0 w/\w0.heap.size <=B
theorem Src.next {w0 w w1:World} {b v:Value} {B:Nat} {L0 L:List UInt8} (h:Src w0 w B) (Lu:ed w B b L0) (k:Wr w b B w1 v L):Src w0 w1 B:=
 ⟨h.1.trans (k.2.1.below h.1.size (fun _ hi=>aQ h.2 (ey Lu hi).1)),h.2⟩
theorem Src.alloc {w0 w:World} {B:Nat} (h:Src w0 w B) (o:Obj):Src w0 (w.alloc o) B:=⟨h.1.alloc h.1.size o,h.2⟩
theorem Src.drew {w0 w:World} {B:Nat} (h:Src w0 w B):Src w0 w.drew B:=⟨h.1.drew,h.2⟩
theorem Src.below {w0 w w1:World} {B:Nat} (h:Src w0 w B) (hb:Below w.heap.size w w1):Src w0 w1 B:=⟨h.1.trans (hb.mono h.1.size),h.2⟩
theorem Aside.below {w w1:World} {b:Value} {X:Nat} {cs:Array Value} {t:TypeId} (h:Aside w b X cs t) (hb:Below w.heap.size w w1):Aside w1 b X cs t:=⟨h.1.below hb h.1.lt,h.2⟩
def KH (w0:World) (L:List UInt8) (l:List Int) (B:Nat) (b:Value) (X:Nat) (cs:Array Value) (t:TypeId) (w w':World) (v:Value) (k:Nat):Prop:=
 k <=l.length/\Wr w b B w' v (L++((l.take k).map fun n=>eO n.toNat).flatten)/\Aside w' v X cs t/\Src w0 w' B
theorem nP:∀l:List Int,(∀n∈l,fO n) ->(((l.map fun n=>eO n.toNat).flatten).length <=10*l.length)
 | [],_=>by simp
 | n::l,h=>by
  have h1:=(eL n.toNat).2;have h2:=nP l (fun x hx=>h x (by simp [hx]));simp only [bF,bQ,ah,aE];omega
theorem oc (w0:World) (b:Value) (xs:List UInt8) (x:eP) (u:Value) (B:Nat) (w:World) (Lu:ed w B b xs) (hn:xs.length <=900000000) (hB:B <=w.heap.size)
  (hx:gD w0 x u) (h0:Src w0 w B) (hm:x.may):
  Calls prog 273 #[b, .agg #[.int .i64 x.op, .int .i64 x.a, .int .i64 x.b,u]] w (gU xs (ix x) B b w):=by
 obtain⟨op,a,bb,l⟩:=x;have HM:=V hm;have HX:=V hx;have PD:=V Lu;obtain⟨au,LB,rfl,N3,MF,-⟩:=id hx.1;unfold maxLen at MF;obtain⟨m1,m2,m3⟩:=id hm;simp only at m1 m2 m3 N3 MF;have hf:fC op≠0:=by
  rcases m3 with h | h | h | h | h | h | h | h | h <;>first | (rw [h.1];decide) | (rw [h];decide)
 obtain⟨o1,o2⟩:=vV hf;have Rw:=nK op;obtain⟨n,rfl⟩:∃n:Nat,op=n:=⟨op.toNat,by omega⟩;obtain⟨f,hfe⟩:∃f,fC (n:Int)=f:=⟨_,rfl⟩;rw [hfe]at m1 m2 m3 hf Rw;have HB:Hid (ix ⟨n,a,bb,l⟩=b8 n::fZ ⟨n,a,bb,l⟩):=V (by
  have:((n:Int).toNat %256)=n:=by omega
  rw [ix,this])
 have HF:=V hfe;have M3:=V m3;have M1:=V m1;have M2:=V m2;clear hm hx hfe m1 m2 m3;go_enter func273,ntmps273;have P9:Wr w b B (w.alloc (.cells #[.int .i64 n, .int .i64 a, .int .i64 bb, .slice au l.length LB] 39)) b xs:=(Wr.refl Lu).alloc _;have ha1:=Aside.new Lu #[.int .i64 n, .int .i64 a, .int .i64 bb, .slice au l.length LB] 39;have MQ:=h0.alloc (.cells #[.int .i64 n, .int .i64 a, .int .i64 bb, .slice au l.length LB] 39);go_wp2_with (first | (at_builtin;refine eT (w.alloc (.cells #[.int .i64 n, .int .i64 a, .int .i64 bb, .slice au l.length LB] 39)) rfl _ _ rfl rfl B b xs rfl P9.1 (b8 n) _ ?_ ?_ ?_ ?_ ?_))
 ·rw [gC (by omega)]
 ·omega
 ·omega
 intro v w2 ho hk hs;have NO:=P9.step ⟨ho,hk,hs⟩;have ha2:=ha1.next ⟨ho,hk,hs⟩;have LL:=MQ.next P9.1 ⟨ho,hk,hs⟩;have c0:=ha2.cell 0;have HW:=V NO;have HA:=V ha2;have HS:=V LL;clear P9 ha1 MQ ho hk hs NO ha2 LL Lu h0;go_wp2_with fail;refine(uC n _).mono ?_;rintro e w3 ⟨rfl,LZ⟩;rw [HF.out];have HW:=V (HW.out.below LZ);have HA:=V (HA.out.below LZ);have HS:=V (HS.out.below LZ);have hBw:=HW.out.base hB;have c1:=HA.out.cell 1;have c2:=HA.out.cell 2;have c3:=HA.out.cell 3;clear LZ c0 hf Rw;rcases M3.out with⟨rfl,ra⟩ | ⟨rfl,ra1,ra2⟩ | ⟨rfl,ra1,ra2⟩ | ⟨rfl,⟨ra1,ra2⟩,rl,rs⟩ | ⟨rfl,ra1,ra2⟩ | ⟨rfl,⟨ra1,ra2⟩,rb1,rb2⟩ | ⟨rfl,ra⟩ | ⟨rfl,ra1,ra2⟩ | rfl
 ·clear ra M3
  go_wp2;go_ret;exact⟨_,rfl,by show Wr _ _ _ _ _ _;rw [HB.out];simpa [fZ,HF.out] using HW.out⟩
 ·clear M3
  have key:∃c:UInt8,(a=0/\c=64)\/(a=1/\c=127)\/(a=2/\c=126):=by
   rcases(show a=0\/a=1\/a=2 by omega)with h | h | h
   ·exact⟨64, .inl ⟨h,rfl⟩⟩
   ·exact⟨127, .inr (.inl ⟨h,rfl⟩)⟩
   ·exact⟨126, .inr (.inr ⟨h,rfl⟩)⟩
  obtain⟨c,⟨rfl,rfl⟩ | ⟨rfl,rfl⟩ | ⟨rfl,rfl⟩⟩:=key
  ·clear ra1 ra2
   have hix:∀wx,(Instr.index 357 (.agg #[.int .u8 64, .int .u8 127, .int .u8 126]) (.int .i64 0)).run prog wx= .ok (.int .u8 64) wx:=fun wx=>by kernel_rfl
   go_wp2_with (first | (at_builtin;refine eT w3 rfl _ _ rfl rfl B v _ rfl HW.out.1 64 _ (by decide) rfl (by simp only [ah,aB];omega) hBw ?_));intro v4 w4 ho hk hs;have NJ:=V (HW.out.step ⟨ho,hk,hs⟩);clear ho hk hs;go_wp2;go_ret;exact⟨_,rfl,by show Wr _ _ _ _ _ _;rw [HB.out];simpa [fZ,HF.out] using NJ.out⟩
  ·clear ra1 ra2
   have hix:∀wx,(Instr.index 357 (.agg #[.int .u8 64, .int .u8 127, .int .u8 126]) (.int .i64 1)).run prog wx= .ok (.int .u8 127) wx:=fun wx=>by kernel_rfl
   go_wp2_with (first | (at_builtin;refine eT w3 rfl _ _ rfl rfl B v _ rfl HW.out.1 127 _ (by decide) rfl (by simp only [ah,aB];omega) hBw ?_));intro v4 w4 ho hk hs;have NJ:=V (HW.out.step ⟨ho,hk,hs⟩);clear ho hk hs;go_wp2;go_ret;exact⟨_,rfl,by show Wr _ _ _ _ _ _;rw [HB.out];simpa [fZ,HF.out] using NJ.out⟩
  ·clear ra1 ra2
   have hix:∀wx,(Instr.index 357 (.agg #[.int .u8 64, .int .u8 127, .int .u8 126]) (.int .i64 2)).run prog wx= .ok (.int .u8 126) wx:=fun wx=>by kernel_rfl
   go_wp2_with (first | (at_builtin;refine eT w3 rfl _ _ rfl rfl B v _ rfl HW.out.1 126 _ (by decide) rfl (by simp only [ah,aB];omega) hBw ?_));intro v4 w4 ho hk hs;have NJ:=V (HW.out.step ⟨ho,hk,hs⟩);clear ho hk hs;go_wp2;go_ret;exact⟨_,rfl,by show Wr _ _ _ _ _ _;rw [HB.out];simpa [fZ,HF.out] using NJ.out⟩
 ·clear M3
  obtain⟨k,rfl⟩:∃k:Nat,a=k:=⟨a.toNat,by omega⟩;go_wp2_with fail;refine(iP v _ k (by omega) B _ HW.out.1 (by simp only [ah,aB];omega) (by omega)).mono ?_;rintro e w4 ⟨v4,rfl,ho,hk,hs⟩;have NJ:=V (HW.out.step ⟨ho,hk,hs⟩);clear ho hk hs;go_wp2;go_ret;exact⟨_,rfl,by show Wr _ _ _ _ _ _;rw [HB.out];simpa [fZ,HF.out] using NJ.out⟩
 ·clear M3
  obtain⟨p,rfl⟩:∃p:Nat,a=p:=⟨a.toNat,by omega⟩;have RS:=V rs;have hls:=nP l rs;clear rs;go_wp2_with fail;refine(iP v _ l.length (by omega) B _ HW.out.1 (by simp only [ah,aB];omega) (by omega)).mono ?_;rintro e w4 ⟨v4,rfl,ho,hk,hs⟩;have hw4:Wr w b B w4 v4 _:=HW.out.step ⟨ho,hk,hs⟩;have HA4:=V (HA.out.next ⟨ho,hk,hs⟩);have PI:=V (HS.out.next HW.out.1 ⟨ho,hk,hs⟩);have hl4:=(eL l.length).2;obtain⟨L,hL⟩:∃L,xs++[b8 n]++eO l.length=L:=⟨_,rfl⟩;rw [hL]at hw4;have hlen:L.length <=xs.length+11:=by rw [<- hL];simp only [ah,aB];omega
  have NJ:=V hw4;have HL:=V hL;have c3':=HA4.out.cell 3;clear ho hk hs hL hw4 c1 c2 c3;go_wp2_with fail;refine eC (fun a' w'=>∃(v:Value) (k:Nat),a'=fr (v::gs a' 1 2 (.pointer (some ⟨w.heap.size,0,none⟩):: .slice none 0 0::gs a' 5 45 (.slice au l.length LB:: .int .i64 l.length:: .int .i64 k::gs a' 53 37 [])))/\KH w0 L l B b w.heap.size #[.int .i64 n, .int .i64 p, .int .i64 bb, .slice au l.length LB] 39 w w' v k) (fun a' _=>(l.length - (intOf (a'.tmps.getD 52 undef)).toNat)) ?_ ?_
  ·exact⟨v4,0,rfl,by omega,by simpa using NJ.out,HA4.out,PI.out⟩
  ·clear c3' HA4 PI
   rintro R a' w1 ⟨v,k,Lv,hJ⟩ HR;dsimp only [fr,gs]at Lv;generalize slot a'=f at Lv;subst Lv;obtain⟨Mi,hw,ha,hs⟩:=hJ;have hBw4:=hw.base hB;have c1:=ha.cell 1;have hlk:(L++((l.take k).map fun n=>eO n.toNat).flatten).length <=900001000:=by
    have g2:=nP (l.take k) (fun x hx=>RS.out x (cC hx));have g3:(l.take k).length <=50:=by rw [aP];omega
    simp only [ah];omega
   have HWK:=V hw;have HAK:=V ha;have HSK:=V hs;by_cases LD:k < l.length
   ·obtain⟨e,he⟩:∃e,l[k]?=some e:=⟨_,aq LD⟩
    obtain⟨a',LQ,hv,_,_,Lt⟩:=HX.out.1.below hs.1;injection hv with e1 e2 e3;subst e1 e3;obtain⟨bb',off,rfl,Nf,hc⟩:=Lt k e he;have c0:=hc 0 _ rfl;rw [aI,aY]at c0;obtain⟨q1,q2⟩:=RS.out e (aN he);obtain⟨q,rfl⟩:∃q:Nat,e=q:=⟨e.toNat,by omega⟩;have HE:=V he;clear Lt e2 he hc hw ha hs;go_wp2_with fail;refine(iP v _ q (by omega) B _ HWK.out.1 (by omega) (by omega)).mono ?_;rintro x w5 ⟨v5,rfl,ho,hk,hs⟩;have HW5:=V (HWK.out.step ⟨ho,hk,hs⟩);have HA5:=V (HAK.out.next ⟨ho,hk,hs⟩);have HS5:=V (HSK.out.next HWK.out.1 ⟨ho,hk,hs⟩);clear ho hk hs;go_wp2;refine HR.out _ _ ⟨v5,k+1,rfl,by omega,?_,HA5.out,HS5.out⟩ ?_
    ·have e1:L++((l.take (k+1)).map fun n=>eO n.toNat).flatten=L++((l.take k).map fun n=>eO n.toNat).flatten++eO q:=by
      rw [aR,HE.out];simp
     rw [e1];exact HW5.out
    ·simp [intOf]
     omega
   ·obtain rfl:k=l.length:=by omega
    rw [aU]at hlk HWK;clear hw ha hs;go_wp2_with fail;refine(iP v _ p (by omega) B _ HWK.out.1 (by omega) (by omega)).mono ?_;rintro x w5 ⟨v5,rfl,ho,hk,hs⟩;have HW5:=V (HWK.out.step ⟨ho,hk,hs⟩);clear ho hk hs;go_wp2;go_ret;refine⟨_,rfl,?_⟩;show Wr _ _ _ _ _ _;have:=HW5.out;rw [<- HL.out]at this;rw [HB.out];simpa [fZ,HF.out] using this
 ·clear M3
  obtain⟨k,rfl⟩:∃k:Nat,a=k:=⟨a.toNat,by omega⟩;go_wp2_with fail;refine(iP v _ k (by omega) B _ HW.out.1 (by simp only [ah,aB];omega) (by omega)).mono ?_;rintro e w4 ⟨v4,rfl,ho,hk,hs⟩;have NJ:=V (HW.out.step ⟨ho,hk,hs⟩);have hBw4:=NJ.out.base hB;have hl4:=(eL k).2;clear ho hk hs hBw c1 c2 c3;go_wp2_with (first | (at_builtin;refine eT w4 rfl _ _ rfl rfl B v4 _ rfl NJ.out.1 0 _ (by decide) rfl (by simp only [ah,aB];omega) hBw4 ?_));intro v5 w5 ho hk hs;have HW5:=V (NJ.out.step ⟨ho,hk,hs⟩);clear ho hk hs;go_wp2;go_ret;exact⟨_,rfl,by show Wr _ _ _ _ _ _;rw [HB.out];simpa [fZ,HF.out] using HW5.out⟩
 ·clear M3
  obtain⟨k,rfl⟩:∃k:Nat,a=k:=⟨a.toNat,by omega⟩;obtain⟨m,rfl⟩:∃m:Nat,bb=m:=⟨bb.toNat,by omega⟩;go_wp2_with fail;refine ea (fun w'=>w'.cell? ⟨w.heap.size,1,none⟩=some (.int .i64 k)/\w'.cell? ⟨w.heap.size,2,none⟩=some (.int .i64 m)) (up 0 4 (up 5 3 ((4,false)::(8,false)::(9,true)::[]))) (by kernel_rfl) (by kernel_rfl) ⟨c1,c2⟩ ?_;iterate 7 (first | (apply sk rfl rfl;simp only [pt]) | (apply dV rfl rfl rfl;·(rintro w' ⟨t0,t1⟩;go_wp2;exact⟨rfl,rfl,rfl⟩)))
  refine dZ rfl rfl ?_;go_wp2_with fail;refine(iP v _ k (by omega) B w3.drew HW.out.drew.1 (by simp only [ah,aB];omega) (by simpa using hBw)).mono ?_;rintro e w4 ⟨v4,rfl,ho,hk,hs⟩;have NJ:=V (HW.out.drew.step ⟨ho,hk,hs⟩);have HA4:=V (HA.out.drew.next ⟨ho,hk,hs⟩);have hBw4:=NJ.out.base hB;have hl4:=(eL k).2;clear ho hk hs hBw c1 c2 c3;go_wp2_with fail;refine⟨⟨HA4.out.cell 1,HA4.out.cell 2⟩,?_⟩;refine dZ rfl rfl ?_;go_wp2_with fail;refine(iP v4 _ m (by omega) B w4 NJ.out.1 (by simp only [ah,aB];omega) hBw4).mono ?_;rintro e w5 ⟨v5,rfl,ho,hk,hs⟩;have HW5:=V (NJ.out.step ⟨ho,hk,hs⟩);have HA5:=V (HA4.out.next ⟨ho,hk,hs⟩);clear ho hk hs;go_wp2_with fail;refine⟨⟨HA5.out.cell 1,HA5.out.cell 2⟩,?_⟩;iterate 1 (first | (apply sk rfl rfl;simp only [pt]) | (apply dV rfl rfl rfl;·(rintro w' ⟨t0,t1⟩;go_wp2;exact⟨rfl,rfl,rfl⟩)))
  refine eF ?_;refine aA ?_;go_wp2;go_ret;exact⟨_,rfl,by show Wr _ _ _ _ _ _;rw [HB.out];simpa [fZ,HF.out] using HW5.out⟩
 ·clear ra M3
  go_wp2_with (first | (at_builtin;refine eT w3 rfl _ _ rfl rfl B v _ rfl HW.out.1 0 _ (by decide) rfl (by simp only [ah,aB];omega) hBw ?_));intro v4 w4 ho hk hs;have NJ:=V (HW.out.step ⟨ho,hk,hs⟩);clear ho hk hs;go_wp2;go_ret;exact⟨_,rfl,by show Wr _ _ _ _ _ _;rw [HB.out];simpa [fZ,HF.out] using NJ.out⟩
 ·clear M3 ra1 ra2
  obtain⟨⟨-,-⟩,⟨g1,g2⟩,-⟩:=HX.out.2;simp only at g1 g2;go_wp2_with fail;refine(mQ v _ a g1 g2 B w3 HW.out.1 (by simp only [ah,aB];omega) hBw).mono ?_;rintro e w4 ⟨v4,rfl,ho,hk,hs⟩;have NJ:=V (HW.out.step ⟨ho,hk,hs⟩);clear ho hk hs;go_wp2;go_ret;exact⟨_,rfl,by show Wr _ _ _ _ _ _;rw [HB.out];simpa [fZ,HF.out] using NJ.out⟩
 ·clear M3
  obtain⟨⟨-,-⟩,⟨g1,g2⟩,-⟩:=HX.out.2;simp only at g1 g2;go_wp2_with fail;refine(mQ v _ a g1 g2 B w3 HW.out.1 (by simp only [ah,aB];omega) hBw).mono ?_;rintro e w4 ⟨v4,rfl,ho,hk,hs⟩;have NJ:=V (HW.out.step ⟨ho,hk,hs⟩);clear ho hk hs;go_wp2;go_ret;exact⟨_,rfl,by show Wr _ _ _ _ _ _;rw [HB.out];simpa [fZ,HF.out] using NJ.out⟩
theorem Cc {x:eP} (h:x.may) (ho:x.ok):(ix x).length <=530:=by
 obtain⟨m1,m2,m3⟩:=h;obtain⟨o1,o2,o3,o4⟩:=ho;have a:=(eL x.a.toNat).2;have b:=(eL x.b.toNat).2;have l:=(eL x.l.length).2;have s:=(ug o2.1 o2.2).2;unfold ix fZ;rw [aE];split
 ·simp
 ·omega
 ·have hs:∀n∈x.l,fO n:=by
   rename_i hf;rw [hf]at m3;rcases m3 with h | h | h | h | h | h | h | h | h <;>first | (exact h.2.2.2) | (exact absurd h.1 (by decide)) | (exact absurd h (by decide))
  have h50:x.l.length <=50:=by
   rename_i hf;rw [hf]at m3;rcases m3 with h | h | h | h | h | h | h | h | h <;>first | (exact h.2.2.1) | (exact absurd h.1 (by decide)) | (exact absurd h (by decide))
  have:=nP x.l hs;simp only [ah];omega
 ·simp;omega
 ·simp only [ah];omega
 ·simp
 ·omega
 ·omega
 ·simp
theorem rP {l:List eP} (hm:∀x∈l,x.may) (ho:∀x∈l,x.ok):((l.map ix).flatten).length <=530*l.length:=by
 induction l with
 | nil=>simp
 | cons x l ih=>
  have h1:=Cc (hm x (by simp)) (ho x (by simp));have h2:=ih (fun y hy=>hm y (by simp [hy])) (fun y hy=>ho y (by simp [hy]));simp only [bF,bQ,ah,aE];omega
theorem gu.J9 {w:World} {v:Value} {l:List eP} (h:gu w v l):∀x∈l,x.ok:=by
 intro x hx;obtain⟨i,hi⟩:=List.getElem?_of_mem hx;obtain⟨a,cap,rfl,-,-⟩:=ef.slice h;obtain⟨b,off,u,-,-,-,hu⟩:=ef.get h hi;exact hu.2
theorem oC {L:List UInt8} {x:eP} {r:List UInt8} (h:gf L=some (x,r)):∃p,L=p++r:=by
 cases L with
 | nil=>cases h
 | cons c l=>
  have hf:fC c.toNat≠0:=by
   intro hz;unfold gf at h;dsimp only at h;rw [hz]at h;cases h
  have h1:=(IR.sa c l hf).1;rw [h]at h1;unfold IR.rest at h1;split at h1
  ·simp only [bq,aS]at h1
   exact⟨_,by rw [<- h1];exact(cB _ _).symm⟩
  ·cases h1
theorem Cb {w:World} {B:Nat} {x:eP} {u:Value} (h:gD w x u) (hf:C0 B w u):gD (mask (jO B) w) x u:=by
 obtain⟨⟨a,cap,hv,h1,h2,h3⟩,ho⟩:=h;refine⟨⟨a,cap,hv,h1,h2,fun i y hy=>?_⟩,ho⟩;obtain⟨b,off,ha,LD,hc⟩:=h3 i y hy;subst ha;have hB:=(hf _ _ _ hv).1;refine⟨b,off,rfl,by rw [gX];exact LD,fun j v hj=>?_⟩;have:=hc j v hj;have hb:jO B b=false:=by
  cases hs:jO B b with
  | false=>rfl
  | true=>have:=lO.1 hs;simp only at hB;omega
 rw [aX (ja w hb)];exact this
def J8 (w0:World) (xs:List UInt8) (l:List eP) (B:Nat) (b:Value) (w w':World) (v:Value) (k:Nat):Prop:=
 k <=l.length/\Wr w b B w' v (xs++((l.take k).map ix).flatten)/\Src w0 w' B
theorem yS (w0:World) (b v:Value) (xs:List UInt8) (l:List eP) (B:Nat) (w:World) (Lu:ed w B b xs) (hn:xs.length <=500000000) (hB:B <=w.heap.size)
  (hl:gu w0 v l) (h0:Src w0 w B) (hlen:l.length <=300) (hm:∀x∈l,x.may):
  Calls prog 279 #[b,v] w (gU xs (qa l) B b w):=by
 obtain⟨a,cap,rfl,h1,h2⟩:=ef.slice hl;have Mv:=V hl.J9;have HL:=V hl;have HM:=V hm;have HO:=V Lu;have H0:=V h0;clear hl hm Lu h0;go_enter func279,ntmps279;go_wp2_with fail;refine eC (fun a' w'=>∃(vb:Value) (k:Nat),a'=fr (vb::gs a' 1 6 (.slice a l.length cap:: .int .i64 l.length:: .int .i64 k::gs a' 10 10 []))/\J8 w0 xs l B b w w' vb k) (fun a' _=>(l.length - (intOf (a'.tmps.getD 9 undef)).toNat)) ?_ ?_
 ·exact⟨_,0,rfl,by omega,by simpa using Wr.refl HO.out,H0.out⟩
 ·skip
  rintro R a' w1 ⟨vb,k,Lv,hJ⟩ HR;dsimp only [fr,gs]at Lv;generalize slot a'=f at Lv;subst Lv;obtain⟨hk,hwr,hsr⟩:=hJ;have HW:=V hwr;have HS:=V hsr;have hB1:=hwr.base hB;clear hwr hsr;have hlen1:(((l.take k).map ix).flatten).length <=530*300:=by
   have:=rP (l:=l.take k) (fun x hx=>HM.out x (cC hx)) (fun x hx=>Mv.out x (cC hx));rw [aP]at this;have:530*min k l.length <=530*300:=dF _ (by omega);omega
  by_cases q:k < l.length;rotate_left
  ·obtain rfl:k=l.length:=by omega
   rw [aU]at hlen1;have HW:=V (show Wr w b B w1 vb (xs++(l.map ix).flatten)by have:=HW.out;rwa [aU]at this);go_wp2_with (first | (at_builtin;refine eT w1 rfl _ _ rfl rfl B vb _ rfl HW.out.1 (11:UInt8) _ rfl rfl (by simp only [ah];omega) hB1 ?_));intro v2 w2 L4 LH LL;have MD:Hid (Wr w b B w2 v2 (xs++qa l)):=V (HW.out.step ⟨by simpa [qa] using L4,LH,LL⟩);clear L4 LH LL;go_wp2;go_ret;exact⟨_,rfl,MD.out⟩
  obtain⟨x,hx⟩:∃x,l[k]?=some x:=⟨_,aq q⟩;have Qs:gu w1 (.slice a l.length cap) l:=HL.out.below HS.out.1;obtain⟨bb,off,u,rfl,LD,hc,hu⟩:=ef.get Qs hx;obtain⟨b0,off0,u0,PR,-,MV,hu0⟩:=ef.get HL.out hx;injection PR with PR;injection PR with e1 e2;subst e1 e2;have hlt0:bb < w0.heap.size:=by
   have:=aO w0 _ (MV 0 _ rfl);exact this
  have c0:=(HS.out.1.cell hlt0).trans (MV 0 _ rfl);have c1:=(HS.out.1.cell hlt0).trans (MV 1 _ rfl);have c2:=(HS.out.1.cell hlt0).trans (MV 2 _ rfl);have c3:=(HS.out.1.cell hlt0).trans (MV 3 _ rfl);rw [aI]at c0;have HX:=V hx;have HU:=V hu0;have HXM:=V (HM.out x (aN hx));obtain⟨⟨au,LB,rfl,-,-,-⟩,-⟩:=id hu0;clear hc MV hu hx hu0 Qs;go_wp2_with fail;have PJ:=V (HW.out.alloc (.cells #[.int .i64 x.op, .int .i64 x.a, .int .i64 x.b, .slice au x.l.length LB] 39));have HS1:=V (HS.out.alloc (.cells #[.int .i64 x.op, .int .i64 x.a, .int .i64 x.b, .slice au x.l.length LB] 39));refine(oc w0 _ _ x _ B _ PJ.out.1 (by simp only [ah];omega) (PJ.out.base hB) HU.out HS1.out HXM.out).mono ?_;rintro e w2 ⟨v2,rfl,L4,LH,LL⟩;have MD:=V (PJ.out.step ⟨L4,LH,LL⟩);have MM:=V (HS1.out.next PJ.out.1 ⟨L4,LH,LL⟩);clear L4 LH LL c0 c1 c2 c3;go_wp2;refine HR.out _ _ ⟨_,k+1,rfl,by omega,?_,MM.out⟩ ?_
  ·have:=MD.out
   rw [aR,HX.out];simpa using this
  ·simp [intOf]
   omega
end Go.Proofs.YtjmeglibedbljaaGreatDoor
