import Derived.Test.YtjmeglibedbljaaGreatDoorRunNoneJ7
import Derived.Lib.Mul64
import Derived.Laws.Bits64b
import Derived.Laws.CopyOwn
namespace Go.Proofs.YtjmeglibedbljaaGreatDoor
set_option maxRecDepth 100000
set_option maxHeartbeats 20000000
open Go.RowKit Tryz
open Lib renaming hid->V
set_option linter.all false
def gq (f:Nat) (a b:Int) (l:List Int):Bool:=
 if(f≠4/\0 < l.length)\/(f≠6/\b≠0)then false else
 match f with
 | 1=>decide (a=0)
 | 2=>lN a 0 2
 | 3=>lN a 0 1000
 | 4=>lN a 0 1000&&(decide (l.length <=50)&& !l.any tT)
 | 5=>lN a 0 1000
 | 6=>lN a 0 3&&lN b 0 4294967295
 | 7=>decide (a=0)
 | 8=>lN a (-2147483648) 2147483647
 | 9=>true
 | _=>false
theorem Jz (x:eP):decide x.may=gq (fC x.op) x.a x.b x.l:=by
 rw [dv,decide_eq_true_iff];have Rw:=nK x.op;have hn:x.l=[]↔¬ 0 < x.l.length:=by rw [List.length_pos_iff];simp
 unfold eP.may gq;generalize fC x.op=f at*;by_cases h:(f≠4/\0 < x.l.length)\/(f≠6/\x.b≠0)
 ·rw [aD h]
  rw [hn]
  constructor
  ·rintro⟨h1,h2,_⟩
   rcases h with⟨g1,g2⟩ | ⟨g1,g2⟩
   ·exact absurd g2 (h1 g1)
   ·exact absurd (h2 g1) g2
  ·intro g;cases g
 ·rw [az h]
  have h1:f≠4 ->x.l=[]:=fun g=>by rw [hn];exact fun k=>h (.inl ⟨g,k⟩)
  have h2:f≠6 ->x.b=0:=fun g=>by
   rcases Decidable.em (x.b=0)with k | k
   ·exact k
   ·exact absurd (.inr ⟨g,k⟩) h
  have hs:(x.l.any tT=false)↔∀n∈x.l,fO n:=E6 x.l;rcases(show f=0\/f=1\/f=2\/f=3\/f=4\/f=5\/f=6\/f=7\/f=8\/f=9 by omega)with rfl | rfl | rfl | rfl | rfl | rfl | rfl | rfl | rfl | rfl
  ·simp
  ·simp [h1,h2]
  ·simp [h1,h2,jE]
  ·simp [h1,h2,jE,fO]
  ·simp [h2,jE,hs,fO]
  ·simp [h1,h2,jE,fO]
  ·simp [h1,jE]
  ·simp [h1,h2]
  ·simp [h1,h2,jE]
  ·simp [h1,h2]
theorem yh (x:eP) (u:Value) (w:World) (hx:gD w x u):Calls prog 107 #[.agg #[.int .i64 x.op, .int .i64 x.a, .int .i64 x.b,u]] w (ew (decide x.may) w):=by
 have MT:=Jz x;have Rw:=nK x.op;obtain⟨op,a,b,l⟩:=x;have hx':=hx;obtain⟨⟨au,LB,rfl,h1,h2,-⟩,LF⟩:=hx';obtain⟨⟨o1,o2⟩,⟨a1,a2⟩,⟨b1,b2⟩,-⟩:=LF;unfold maxLen at h2;simp only at MT Rw h1 h2 o1 o2 a1 a2 b1 b2;obtain⟨f,hf⟩:∃f,fC op=f:=⟨_,rfl⟩;obtain⟨m,hm⟩:∃m,decide (eP.may ⟨op,a,b,l⟩)=m:=⟨_,rfl⟩;rw [hf]at MT Rw;rw [hm]at MT;have HX:=V hx.1;have HF:=V hf;have HM:=V hm;have HB:=V MT;clear hx hf hm MT;go_enter func107,ntmps107;go_wp2_with fail;refine(uC op _).mono ?_;rintro e w1 ⟨rfl,LG⟩;rw [HF.out];have hb:Below w.heap.size w w1:=((an _ _).alloc (ag _) _).trans (LG.mono (by simp));have Lt:∀i v,(#[Value.int .i64 op, .int .i64 a, .int .i64 b, .slice au l.length LB])[i]?=some v ->w1.cell? ⟨w.heap.size,i,none⟩=some v:=fun i v h=>by
  rw [LG.cell (by simp),bJ];exact h
 have c1:=Lt 1 _ rfl;have c2:=Lt 2 _ rfl;have c3:=Lt 3 _ rfl;have HX1:=V (HX.out.below hb);clear Lt LG;rcases(show f=0\/f=1\/f=2\/f=3\/f=4\/f=5\/f=6\/f=7\/f=8\/f=9 by omega)with rfl | rfl | rfl | rfl | rfl | rfl | rfl | rfl | rfl | rfl
 ·skip
  rcases aZ l.length with q | q;rotate_left
  ·have q':¬ l=[]:=fun e=>by rw [e]at q;exact absurd q (by decide)
   have LV:Hid (gq 0 a b l=false):=V (by unfold gq;rw [if_pos (.inl ⟨by decide,q⟩)]);go_wp2;go_ret;exact⟨by rw [HM.out,HB.out,LV.out];rfl,hb⟩
  obtain rfl:=aH q;clear q;by_cases r:b=0;rotate_left
  ·have r':(b !=0)=true:=fa r
   have LV:Hid (gq 0 a b []=false):=V (by unfold gq;rw [if_pos (.inr ⟨by decide,r⟩)]);clear r;go_wp2;go_ret;exact⟨by rw [HM.out,HB.out,LV.out];rfl,hb⟩
  subst r;have LV:Hid (gq 0 a 0 []=false):=V (by unfold gq;exact(if_neg (by simp)).trans rfl);go_wp2;go_ret;exact⟨by rw [HM.out,HB.out,LV.out];rfl,hb⟩
 ·skip
  rcases aZ l.length with q | q;rotate_left
  ·have q':¬ l=[]:=fun e=>by rw [e]at q;exact absurd q (by decide)
   have LV:Hid (gq 1 a b l=false):=V (by unfold gq;rw [if_pos (.inl ⟨by decide,q⟩)]);go_wp2;go_ret;exact⟨by rw [HM.out,HB.out,LV.out];rfl,hb⟩
  obtain rfl:=aH q;clear q;by_cases r:b=0;rotate_left
  ·have r':(b !=0)=true:=fa r
   have LV:Hid (gq 1 a b []=false):=V (by unfold gq;rw [if_pos (.inr ⟨by decide,r⟩)]);clear r;go_wp2;go_ret;exact⟨by rw [HM.out,HB.out,LV.out];rfl,hb⟩
  subst r;have LV:Hid (gq 1 a 0 []=decide (a=0)):=V (by unfold gq;exact(if_neg (by simp)).trans rfl);by_cases r:a=0
  ·have r':(a==0)=true:=eI r
   have LV:Hid (gq 1 a 0 []=true):=V (by rw [LV.out,r];rfl);clear r;go_wp2;go_ret;exact⟨by rw [HM.out,HB.out,LV.out];rfl,hb⟩
  ·have r':(a==0)=false:=dR r
   have LV:Hid (gq 1 a 0 []=false):=V (by rw [LV.out];exact aw r);clear r;go_wp2;go_ret;exact⟨by rw [HM.out,HB.out,LV.out];rfl,hb⟩
 ·skip
  rcases aZ l.length with q | q;rotate_left
  ·have q':¬ l=[]:=fun e=>by rw [e]at q;exact absurd q (by decide)
   have LV:Hid (gq 2 a b l=false):=V (by unfold gq;rw [if_pos (.inl ⟨by decide,q⟩)]);go_wp2;go_ret;exact⟨by rw [HM.out,HB.out,LV.out];rfl,hb⟩
  obtain rfl:=aH q;clear q;by_cases r:b=0;rotate_left
  ·have r':(b !=0)=true:=fa r
   have LV:Hid (gq 2 a b []=false):=V (by unfold gq;rw [if_pos (.inr ⟨by decide,r⟩)]);clear r;go_wp2;go_ret;exact⟨by rw [HM.out,HB.out,LV.out];rfl,hb⟩
  subst r;have LV:Hid (gq 2 a 0 []=lN a 0 2):=V (by unfold gq;exact(if_neg (by simp)).trans rfl);go_wp2_with fail;refine(jQ a 0 2 _).mono ?_;rintro e w2 ⟨rfl,Lw⟩;replace hb:=dT hb Lw;clear Lw;go_wp2;go_ret;exact⟨by rw [HM.out,HB.out,LV.out];rfl,hb⟩
 ·skip
  rcases aZ l.length with q | q;rotate_left
  ·have q':¬ l=[]:=fun e=>by rw [e]at q;exact absurd q (by decide)
   have LV:Hid (gq 3 a b l=false):=V (by unfold gq;rw [if_pos (.inl ⟨by decide,q⟩)]);go_wp2;go_ret;exact⟨by rw [HM.out,HB.out,LV.out];rfl,hb⟩
  obtain rfl:=aH q;clear q;by_cases r:b=0;rotate_left
  ·have r':(b !=0)=true:=fa r
   have LV:Hid (gq 3 a b []=false):=V (by unfold gq;rw [if_pos (.inr ⟨by decide,r⟩)]);clear r;go_wp2;go_ret;exact⟨by rw [HM.out,HB.out,LV.out];rfl,hb⟩
  subst r;have LV:Hid (gq 3 a 0 []=lN a 0 1000):=V (by unfold gq;exact(if_neg (by simp)).trans rfl);go_wp2_with fail;refine(nd a _).mono ?_;rintro e w2 ⟨rfl,Lw⟩;replace hb:=dT hb Lw;clear Lw;go_wp2;go_ret;exact⟨by rw [HM.out,HB.out,LV.out];rfl,hb⟩
 ·skip
  by_cases r:b=0;rotate_left
  ·have r':(b !=0)=true:=fa r
   have LV:Hid (gq 4 a b l=false):=V (by unfold gq;rw [if_pos (.inr ⟨by decide,r⟩)]);clear r;go_wp2;go_ret;exact⟨by rw [HM.out,HB.out,LV.out];rfl,hb⟩
  subst r;have LV:Hid (gq 4 a 0 l=(lN a 0 1000&&(decide (l.length <=50)&& !l.any tT))):=V (by unfold gq;exact(if_neg (by simp)).trans rfl);go_wp2_with fail;refine(nd a _).mono ?_;rintro e w2 ⟨rfl,Lw⟩;have c3':=(Lw.cell (aO w1 _ c3)).trans c3;clear c1 c2 c3;cases h6:lN a 0 1000
  ·have H6:=V h6
   replace hb:=hb.trans (Lw.mono hb.size);clear h6 Lw c3';go_wp2;go_ret;exact⟨by rw [HM.out,HB.out,LV.out,H6.out];rfl,hb⟩
  have H6:=V h6;clear h6;by_cases q:l.length <=50
  ·have q1:decide ((l.length:Int) <=50)=true:=ay (by omega)
   have Q:=V (ay q);clear q;go_wp2_with fail;refine(xX _ l _ (HX1.out.below (Lw.mono (ag _)))).mono ?_;rintro e w3 ⟨rfl,LZ⟩;replace hb:=(hb.trans (Lw.mono hb.size)).trans (LZ.mono (hb.trans (Lw.mono hb.size)).size);clear Lw LZ c3' q1;go_wp2;go_ret;exact⟨by rw [HM.out,HB.out,LV.out,H6.out,Q.out,cd,cd];rfl,hb⟩
  ·have q1:decide ((l.length:Int) <=50)=false:=aw (by omega)
   have Q:=V (aw q);replace hb:=hb.trans (Lw.mono hb.size);clear q Lw;go_wp2;go_ret;exact⟨by rw [HM.out,HB.out,LV.out,H6.out,Q.out];rfl,hb⟩
 ·skip
  rcases aZ l.length with q | q;rotate_left
  ·have q':¬ l=[]:=fun e=>by rw [e]at q;exact absurd q (by decide)
   have LV:Hid (gq 5 a b l=false):=V (by unfold gq;rw [if_pos (.inl ⟨by decide,q⟩)]);go_wp2;go_ret;exact⟨by rw [HM.out,HB.out,LV.out];rfl,hb⟩
  obtain rfl:=aH q;clear q;by_cases r:b=0;rotate_left
  ·have r':(b !=0)=true:=fa r
   have LV:Hid (gq 5 a b []=false):=V (by unfold gq;rw [if_pos (.inr ⟨by decide,r⟩)]);clear r;go_wp2;go_ret;exact⟨by rw [HM.out,HB.out,LV.out];rfl,hb⟩
  subst r;have LV:Hid (gq 5 a 0 []=lN a 0 1000):=V (by unfold gq;exact(if_neg (by simp)).trans rfl);go_wp2_with fail;refine(nd a _).mono ?_;rintro e w2 ⟨rfl,Lw⟩;replace hb:=dT hb Lw;clear Lw;go_wp2;go_ret;exact⟨by rw [HM.out,HB.out,LV.out];rfl,hb⟩
 ·skip
  rcases aZ l.length with q | q;rotate_left
  ·have q':¬ l=[]:=fun e=>by rw [e]at q;exact absurd q (by decide)
   have LV:Hid (gq 6 a b l=false):=V (by unfold gq;rw [if_pos (.inl ⟨by decide,q⟩)]);go_wp2;go_ret;exact⟨by rw [HM.out,HB.out,LV.out];rfl,hb⟩
  obtain rfl:=aH q;clear q;have LV:Hid (gq 6 a b []=(lN a 0 3&&lN b 0 4294967295)):=V (by unfold gq;exact(if_neg (by simp)).trans rfl);go_wp2_with fail;refine(jQ a 0 3 _).mono ?_;rintro e w2 ⟨rfl,Lw⟩;have c2':=(Lw.cell (aO w1 _ c2)).trans c2;clear c1 c2 c3;cases h6:lN a 0 3
  ·have H6:=V h6
   replace hb:=hb.trans (Lw.mono hb.size);clear h6 Lw c2';go_wp2;go_ret;exact⟨by rw [HM.out,HB.out,LV.out,H6.out];rfl,hb⟩
  have H6:=V h6;clear h6;go_wp2_with fail;refine(jQ b 0 4294967295 _).mono ?_;rintro e w3 ⟨rfl,LZ⟩;replace hb:=(hb.trans (Lw.mono hb.size)).trans (LZ.mono (hb.trans (Lw.mono hb.size)).size);clear Lw LZ c2';go_wp2;go_ret;exact⟨by rw [HM.out,HB.out,LV.out,H6.out,cd];rfl,hb⟩
 ·skip
  rcases aZ l.length with q | q;rotate_left
  ·have q':¬ l=[]:=fun e=>by rw [e]at q;exact absurd q (by decide)
   have LV:Hid (gq 7 a b l=false):=V (by unfold gq;rw [if_pos (.inl ⟨by decide,q⟩)]);go_wp2;go_ret;exact⟨by rw [HM.out,HB.out,LV.out];rfl,hb⟩
  obtain rfl:=aH q;clear q;by_cases r:b=0;rotate_left
  ·have r':(b !=0)=true:=fa r
   have LV:Hid (gq 7 a b []=false):=V (by unfold gq;rw [if_pos (.inr ⟨by decide,r⟩)]);clear r;go_wp2;go_ret;exact⟨by rw [HM.out,HB.out,LV.out];rfl,hb⟩
  subst r;have LV:Hid (gq 7 a 0 []=decide (a=0)):=V (by unfold gq;exact(if_neg (by simp)).trans rfl);by_cases r:a=0
  ·have r':(a==0)=true:=eI r
   have LV:Hid (gq 7 a 0 []=true):=V (by rw [LV.out,r];rfl);clear r;go_wp2;go_ret;exact⟨by rw [HM.out,HB.out,LV.out];rfl,hb⟩
  ·have r':(a==0)=false:=dR r
   have LV:Hid (gq 7 a 0 []=false):=V (by rw [LV.out];exact aw r);clear r;go_wp2;go_ret;exact⟨by rw [HM.out,HB.out,LV.out];rfl,hb⟩
 ·skip
  rcases aZ l.length with q | q;rotate_left
  ·have q':¬ l=[]:=fun e=>by rw [e]at q;exact absurd q (by decide)
   have LV:Hid (gq 8 a b l=false):=V (by unfold gq;rw [if_pos (.inl ⟨by decide,q⟩)]);go_wp2;go_ret;exact⟨by rw [HM.out,HB.out,LV.out];rfl,hb⟩
  obtain rfl:=aH q;clear q;by_cases r:b=0;rotate_left
  ·have r':(b !=0)=true:=fa r
   have LV:Hid (gq 8 a b []=false):=V (by unfold gq;rw [if_pos (.inr ⟨by decide,r⟩)]);clear r;go_wp2;go_ret;exact⟨by rw [HM.out,HB.out,LV.out];rfl,hb⟩
  subst r;have LV:Hid (gq 8 a 0 []=lN a (-2147483648) 2147483647):=V (by unfold gq;exact(if_neg (by simp)).trans rfl);go_wp2_with fail;refine(jQ a (-2147483648) 2147483647 _).mono ?_;rintro e w2 ⟨rfl,Lw⟩;replace hb:=dT hb Lw;clear Lw;go_wp2;go_ret;exact⟨by rw [HM.out,HB.out,LV.out];rfl,hb⟩
 ·skip
  rcases aZ l.length with q | q;rotate_left
  ·have q':¬ l=[]:=fun e=>by rw [e]at q;exact absurd q (by decide)
   have LV:Hid (gq 9 a b l=false):=V (by unfold gq;rw [if_pos (.inl ⟨by decide,q⟩)]);go_wp2;go_ret;exact⟨by rw [HM.out,HB.out,LV.out];rfl,hb⟩
  obtain rfl:=aH q;clear q;by_cases r:b=0;rotate_left
  ·have r':(b !=0)=true:=fa r
   have LV:Hid (gq 9 a b []=false):=V (by unfold gq;rw [if_pos (.inr ⟨by decide,r⟩)]);clear r;go_wp2;go_ret;exact⟨by rw [HM.out,HB.out,LV.out];rfl,hb⟩
  subst r;have LV:Hid (gq 9 a 0 []=true):=V (by unfold gq;exact(if_neg (by simp)).trans rfl);go_wp2;go_ret;exact⟨by rw [HM.out,HB.out,LV.out];rfl,hb⟩
theorem kE {α:Type} (p:α ->Prop) [DecidablePred p] (l:List α) (n:Int):(decide ((l.length:Int) <=n)&&l.all fun x=>decide (p x))=decide ((l.length:Int) <=n/\∀x∈l,p x):=by
 rw [dv];simp
theorem qE (n:Int) (w:World):Calls prog 155 #[.int .i64 n] w (ew (decide (fO n)) w):=by
 by_cases q1:0 <=n
 ·have f1:decide (0 <=n)=true:=ay q1
  have HB:Hid (decide (fO n)=decide (n <=1000)):=V (by simp [fO,q1]);clear q1;go_enter func155,ntmps155;go_wp2;go_ret;exact⟨by rw [HB.out];rfl,an _ _⟩
 ·have f1:decide (0 <=n)=false:=aw q1
  have HB:Hid (decide (fO n)=false):=V (by simp [fO,q1]);clear q1;go_enter func155,ntmps155;go_wp2;go_ret;exact⟨by rw [HB.out];rfl,an _ _⟩
theorem DN (n:Int) (w:World):Calls prog 105 #[.int .i64 n] w (ew (decide (kindOk n)) w):=by
 by_cases q1:n=1
 ·have HB:Hid (decide (kindOk n)=true):=V (by simp [kindOk,q1])
  have f1:=eI q1;clear q1;go_enter func105,ntmps105;go_wp2;go_ret;exact⟨by rw [HB.out];rfl,an _ _⟩
 ·have f1:=dR q1
  have HB:Hid (decide (kindOk n)=(n==2)):=V (by simp only [kindOk,q1,false_or];rw [dv];simp);clear q1;go_enter func105,ntmps105;go_wp2;go_ret;exact⟨by rw [HB.out];rfl,an _ _⟩
theorem AF (n:Int) (w:World):Calls prog 162 #[.int .i64 n] w (ew (decide (lV n)) w):=by
 by_cases q1: -2147483648 <=n
 ·have f1:decide (-2147483648 <=n)=true:=ay q1
  have HB:Hid (decide (lV n)=decide (n <=2147483647)):=V (by simp [lV,q1]);clear q1;go_enter func162,ntmps162;go_wp2;go_ret;exact⟨by rw [HB.out];rfl,an _ _⟩
 ·have f1:decide (-2147483648 <=n)=false:=aw q1
  have HB:Hid (decide (lV n)=false):=V (by simp only [lV,q1,false_and];rfl);clear q1;go_enter func162,ntmps162;go_wp2;go_ret;exact⟨by rw [HB.out];rfl,an _ _⟩
theorem Ae (c:UInt8) (w:World):Calls prog 261 #[bv c] w (ew (decide (32 <=c.toNat/\c.toNat <=126)) w):=by
 by_cases q1:32 <=c.toNat
 ·have f1:decide ((32:Int) <=c.toNat)=true:=ay (by omega)
  have HB:Hid (decide (32 <=c.toNat/\c.toNat <=126)=decide ((c.toNat:Int) <=126)):=V (by rw [dv];simp [q1];omega);clear q1;go_enter func261,ntmps261;go_wp2;go_ret;exact⟨by rw [HB.out];rfl,an _ _⟩
 ·have f1:decide ((32:Int) <=c.toNat)=false:=aw (by omega)
  have HB:Hid (decide (32 <=c.toNat/\c.toNat <=126)=false):=V (by simp [q1]);clear q1;go_enter func261,ntmps261;go_wp2;go_ret;exact⟨by rw [HB.out];rfl,an _ _⟩
theorem oh (v:Value) (l:List Int) (n:Int) (w:World) (hl:ee 1 eU w v l):Calls prog 104 #[v, .int .i64 n, .func (.func 105) #[] #[]] w (ew (decide ((l.length:Int) <=n/\∀k∈l,kindOk k)) w):=by
 rw [<- kE];exact tD (fun k=>decide (kindOk k)) v l w hl 105 n (fun _ _=>by rfl) (fun e _ w' _=>DN e w')
theorem qh (v:Value) (l:List Int) (n:Int) (w:World) (hl:ee 1 eU w v l):Calls prog 104 #[v, .int .i64 n, .func (.func 155) #[] #[]] w (ew (decide ((l.length:Int) <=n/\∀k∈l,fO k)) w):=by
 rw [<- kE];exact tD (fun k=>decide (fO k)) v l w hl 155 n (fun _ _=>by rfl) (fun e _ w' _=>qE e w')
theorem vH (v:Value) (l:List eP) (n:Int) (w:World) (hl:gu w v l):Calls prog 106 #[v, .int .i64 n, .func (.func 107) #[] #[]] w (ew (decide ((l.length:Int) <=n/\∀y∈l,y.may)) w):=by
 rw [<- kE];exact Fv (fun y=>decide y.may) v l w hl 107 n (fun _ _=>by rfl) (fun e _ u w' _ hu=>yh e u w' hu)
theorem FQ (e:gw) (u:Value × Value) (w:World) (hu:gG w e u):Calls prog 151 #[.agg #[u.1,u.2]] w (ew (decide e.may) w):=by
 obtain⟨u1,u2⟩:=u;have HU:=V hu;obtain⟨⟨⟨a1,LO,M5,-,-,-⟩,⟨a2,LA,M9,-,-,-⟩⟩,-⟩:=id hu;simp only at M5 M9;subst M5 M9;have HM:Hid (decide e.may=(decide ((e.params.length:Int) <=32/\∀k∈e.params,kindOk k)&&decide ((e.results.length:Int) <=1/\∀k∈e.results,kindOk k))):=V (by rw [<- cF];exact dc.2 (and_congr (dI (by omega)) (dI (by omega))));have B0:=eD.new w #[.slice a1 e.params.length LO, .slice a2 e.results.length LA] 69;have h0:Below w.heap.size w (w.alloc (.cells #[.slice a1 e.params.length LO, .slice a2 e.results.length LA] 69)):=(an _ _).alloc (ag _) _;clear hu;go_enter func151,ntmps151;go_wp2_with fail;refine(oh _ e.params 32 _ (HU.out.1.1.below h0)).mono ?_;rintro x w2 ⟨rfl,hb⟩;obtain⟨r1,hr⟩:∃r,decide ((e.params.length:Int) <=32/\∀k∈e.params,kindOk k)=r:=⟨_,rfl⟩;rw [hr];have R1:=V hr;clear hr;have B1:=B0.below hb B0.lt;have h1:=h0.trans (hb.mono h0.size);have c1:w2.cell? ⟨w.heap.size,1,none⟩=some (.slice a2 e.results.length LA):=B1.cell 1;cases r1
 ·go_wp2
  go_ret;exact⟨by rw [HM.out,R1.out];rfl,h1⟩
 ·go_wp2_with fail
  refine(oh _ e.results 1 _ (HU.out.1.2.below h1)).mono ?_;rintro x w3 ⟨rfl,hb⟩;obtain⟨r2,hr⟩:∃r,decide ((e.results.length:Int) <=1/\∀k∈e.results,kindOk k)=r:=⟨_,rfl⟩;rw [hr];have R2:=V hr;clear hr;go_wp2;go_ret;exact⟨by rw [HM.out,R1.out,R2.out];rfl,h1.trans (hb.mono h1.size)⟩
theorem sh (s:ByteArray) (w:World) (hs:s.size <=1000000000000):Calls prog 154 #[.string s] w (ew (decide (jL s)) w):=by
 have hse:s.toList=s.data.toList:=by
  have:=kU s.data.toList;exact this
 have kc:=fun(w:World)=>Dq w s;by_cases q:s.data.toList=[]
 ·have f:s.toList.isEmpty=true:=by rw [hse,q];rfl
  have HB:Hid (decide (jL s)=false):=V (by simp [jL,q]);clear hse q;go_enter func154,ntmps154;go_wp2;go_ret;exact⟨by rw [HB.out];rfl,an _ _⟩
 ·have f:s.toList.isEmpty=false:=by
   rw [hse];cases h:s.data.toList with
   | nil=>exact absurd h q
   | cons x l=>rfl
  have HB:Hid (decide (jL s)=decide ((s.data.toList.length:Int) <=16/\∀c∈s.data.toList,32 <=c.toNat/\c.toNat <=126)):=V (dc.2 ⟨fun h=>⟨by have:=h.2.1;omega,h.2.2⟩,fun h=>⟨q,by have:=h.1;omega,h.2⟩⟩);clear hse q;go_enter func154,ntmps154;go_wp2_with fail;refine(FB (fun c=>decide (32 <=c.toNat/\c.toNat <=126)) _ s.data.toList _ (Ig w s hs) 261 16 (fun _ _=>by rfl) (fun e _ w' _=>Ae e w')).mono ?_;rintro x w2 ⟨rfl,hb⟩;obtain⟨r1,hr⟩:∃r,(decide ((s.data.toList.length:Int) <=16)&&s.data.toList.all fun c=>decide (32 <=c.toNat/\c.toNat <=126))=r:=⟨_,rfl⟩;rw [hr];have R1:=V hr;clear hr;go_wp2;go_ret;exact⟨by rw [HB.out, <- kE,R1.out];rfl,(ur w s).trans (hb.mono (ur w s).size)⟩
theorem GL (e:jD) (w:World) (hs:e.mod.size <=1000000000000/\e.name.size <=1000000000000):Calls prog 153 #[.agg #[.string e.mod, .string e.name, .int .i64 e.type]] w (ew (decide e.may) w):=by
 have HM:Hid (decide e.may=(decide (jL e.mod)&&(decide (jL e.name)&&decide (fO e.type)))):=V (by rw [<- cF, <- cF];rfl);have B0:=eD.new w #[.string e.mod, .string e.name, .int .i64 e.type] 71;have h0:Below w.heap.size w (w.alloc (.cells #[.string e.mod, .string e.name, .int .i64 e.type] 71)):=(an _ _).alloc (ag _) _;go_enter func153,ntmps153;go_wp2_with fail;refine(sh e.mod _ hs.1).mono ?_;rintro x w2 ⟨rfl,hb⟩;obtain⟨r1,hr⟩:∃r,decide (jL e.mod)=r:=⟨_,rfl⟩;rw [hr];have R1:=V hr;clear hr;have B1:=B0.below hb B0.lt;have h1:=h0.trans (hb.mono h0.size);have c1:w2.cell? ⟨w.heap.size,1,none⟩=some (.string e.name):=B1.cell 1;cases r1
 ·go_wp2
  go_ret;exact⟨by rw [HM.out,R1.out];rfl,h1⟩
 ·go_wp2_with fail
  refine(sh e.name _ hs.2).mono ?_;rintro x w3 ⟨rfl,hb⟩;obtain⟨r2,hr⟩:∃r,decide (jL e.name)=r:=⟨_,rfl⟩;rw [hr];have R2:=V hr;clear hr;have B2:=B1.below hb B1.lt;have h2:=h1.trans (hb.mono h1.size);have c2:w3.cell? ⟨w.heap.size,2,none⟩=some (.int .i64 e.type):=B2.cell 2;cases r2
  ·go_wp2
   go_ret;exact⟨by rw [HM.out,R1.out,R2.out];rfl,h2⟩
  ·go_wp2_with fail
   refine(qE e.type _).mono ?_;rintro x w4 ⟨rfl,hb⟩;obtain⟨r3,hr⟩:∃r,decide (fO e.type)=r:=⟨_,rfl⟩;rw [hr];have R3:=V hr;clear hr;go_wp2;go_ret;exact⟨by rw [HM.out,R1.out,R2.out,R3.out];rfl,h2.trans (hb.mono h2.size)⟩
theorem G3 (e:jz) (w:World):Calls prog 157 #[.agg #[.bool e.isVar, .int .i64 e.init.kind, .int .i64 e.init.n]] w (ew (decide e.init.may) w):=by
 have B0:=eD.new w #[.bool e.isVar, .int .i64 e.init.kind, .int .i64 e.init.n] 73;have h0:Below w.heap.size w (w.alloc (.cells #[.bool e.isVar, .int .i64 e.init.kind, .int .i64 e.init.n] 73)):=(an _ _).alloc (ag _) _;go_enter func157,ntmps157;go_wp2_with fail;refine(lK e.init _).mono ?_;rintro x w2 ⟨rfl,hb⟩;obtain⟨r1,hr⟩:∃r,decide e.init.may=r:=⟨_,rfl⟩;rw [hr];have R1:=V hr;clear hr;go_wp2;go_ret;exact⟨by rw [R1.out];rfl,h0.trans (hb.mono h0.size)⟩
theorem Gu (e:iU) (w:World) (hs:e.name.size <=1000000000000):Calls prog 159 #[.agg #[.string e.name, .int .i64 e.func]] w (ew (decide e.may) w):=by
 have HM:Hid (decide e.may=(decide (jL e.name)&&decide (fO e.func))):=V (by rw [<- cF];rfl);have B0:=eD.new w #[.string e.name, .int .i64 e.func] 75;have h0:Below w.heap.size w (w.alloc (.cells #[.string e.name, .int .i64 e.func] 75)):=(an _ _).alloc (ag _) _;go_enter func159,ntmps159;go_wp2_with fail;refine(sh e.name _ hs).mono ?_;rintro x w2 ⟨rfl,hb⟩;obtain⟨r1,hr⟩:∃r,decide (jL e.name)=r:=⟨_,rfl⟩;rw [hr];have R1:=V hr;clear hr;have B1:=B0.below hb B0.lt;have h1:=h0.trans (hb.mono h0.size);have c1:w2.cell? ⟨w.heap.size,1,none⟩=some (.int .i64 e.func):=B1.cell 1;cases r1
 ·go_wp2
  go_ret;exact⟨by rw [HM.out,R1.out];rfl,h1⟩
 ·go_wp2_with fail
  refine(qE e.func _).mono ?_;rintro x w4 ⟨rfl,hb⟩;obtain⟨r3,hr⟩:∃r,decide (fO e.func)=r:=⟨_,rfl⟩;rw [hr];have R3:=V hr;clear hr;go_wp2;go_ret;exact⟨by rw [HM.out,R1.out,R3.out];rfl,h1.trans (hb.mono h1.size)⟩
theorem EX (e:jh) (u:Value) (w:World) (hu:gQ w e u):Calls prog 161 #[.agg #[.int .i64 e.off,u]] w (ew (decide e.may) w):=by
 have HU:=V hu;obtain⟨⟨a1,LO,rfl,-,-,-⟩,-⟩:=id hu;clear hu;have HM:Hid (decide e.may=(decide (lV e.off)&&decide ((e.funcs.length:Int) <=50/\∀n∈e.funcs,fO n))):=V (by rw [<- cF];exact dc.2 (and_congr_right' (dI (by omega))));have B0:=eD.new w #[.int .i64 e.off, .slice a1 e.funcs.length LO] 77;have h0:Below w.heap.size w (w.alloc (.cells #[.int .i64 e.off, .slice a1 e.funcs.length LO] 77)):=(an _ _).alloc (ag _) _;go_enter func161,ntmps161;go_wp2_with fail;refine(AF e.off _).mono ?_;rintro x w2 ⟨rfl,hb⟩;obtain⟨r1,hr⟩:∃r,decide (lV e.off)=r:=⟨_,rfl⟩;rw [hr];have R1:=V hr;clear hr;have B1:=B0.below hb B0.lt;have h1:=h0.trans (hb.mono h0.size);have c1:w2.cell? ⟨w.heap.size,1,none⟩=some (.slice a1 e.funcs.length LO):=B1.cell 1;cases r1
 ·go_wp2
  go_ret;exact⟨by rw [HM.out,R1.out];rfl,h1⟩
 ·go_wp2_with fail
  refine(qh _ e.funcs 50 _ (HU.out.1.below h1)).mono ?_;rintro x w4 ⟨rfl,hb⟩;obtain⟨r3,hr⟩:∃r,decide ((e.funcs.length:Int) <=50/\∀n∈e.funcs,fO n)=r:=⟨_,rfl⟩;rw [hr];have R3:=V hr;clear hr;go_wp2;go_ret;exact⟨by rw [HM.out,R1.out,R3.out];rfl,h1.trans (hb.mono h1.size)⟩
theorem GA (e:gR) (u:Value) (w:World) (hu:gb w e u):Calls prog 164 #[.agg #[.int .i64 e.off,u]] w (ew (decide e.may) w):=by
 have HU:=V hu;obtain⟨⟨a1,LO,rfl,-,-,-⟩,-⟩:=id hu;clear hu;have HM:Hid (decide e.may=(decide (lV e.off)&&decide ((e.bytes.length:Int) <=1000))):=V (by rw [<- cF];exact dc.2 (and_congr_right' (by omega)));have B0:=eD.new w #[.int .i64 e.off, .slice a1 e.bytes.length LO] 106;have h0:Below w.heap.size w (w.alloc (.cells #[.int .i64 e.off, .slice a1 e.bytes.length LO] 106)):=(an _ _).alloc (ag _) _;go_enter func164,ntmps164;go_wp2_with fail;refine(AF e.off _).mono ?_;rintro x w2 ⟨rfl,hb⟩;obtain⟨r1,hr⟩:∃r,decide (lV e.off)=r:=⟨_,rfl⟩;rw [hr];have R1:=V hr;clear hr;have B1:=B0.below hb B0.lt;have h1:=h0.trans (hb.mono h0.size);have c1:w2.cell? ⟨w.heap.size,1,none⟩=some (.slice a1 e.bytes.length LO):=B1.cell 1;cases r1
 ·go_wp2
  go_ret;exact⟨by rw [HM.out,R1.out];rfl,h1⟩
 ·go_wp2
  go_ret;exact⟨by rw [HM.out,R1.out];rfl,h1⟩
theorem GZ (e:hI) (u:Value × Value) (w:World) (hu:gE w e u):Calls prog 103 #[.agg #[u.1,u.2]] w (ew (decide e.may) w):=by
 obtain⟨u1,u2⟩:=u;have HU:=V hu;obtain⟨⟨⟨a1,LO,M5,-,-,-⟩,Me⟩,-⟩:=id hu;obtain⟨a2,LA,M9,-,-⟩:=ef.slice Me;simp only at M5 M9;subst M5 M9;clear Me hu;have HM:Hid (decide e.may=((fJ e.body).isSome&&(decide ((e.locals.length:Int) <=32/\∀k∈e.locals,kindOk k)&&decide ((e.body.length:Int) <=300/\∀y∈e.body,y.may)))):=V (by
  rw [<- cF,show(fJ e.body).isSome=decide ((fJ e.body).isSome=true)by simp, <- cF];exact dc.2 (and_congr_right' (and_congr (dI (by omega)) (dI (by omega)))))
 have B0:=eD.new w #[.slice a1 e.locals.length LO, .slice a2 e.body.length LA] 41;have h0:Below w.heap.size w (w.alloc (.cells #[.slice a1 e.locals.length LO, .slice a2 e.body.length LA] 41)):=(an _ _).alloc (ag _) _;have c1:(w.alloc (.cells #[.slice a1 e.locals.length LO, .slice a2 e.body.length LA] 41)).cell? ⟨w.heap.size,1,none⟩=some (.slice a2 e.body.length LA):=B0.cell 1;go_enter func103,ntmps103;go_wp2_with fail;refine(pI _ e.body _ (HU.out.1.2.below h0)).mono ?_;rintro x w2 ⟨hb,⟨bs,v,hm,rfl,-⟩ | ⟨hm,rfl⟩⟩;rotate_left
 ·have R1:=V (show(fJ e.body).isSome=false by rw [hm];rfl)
  have h1:=h0.trans (hb.mono h0.size);clear hm hb;go_wp2;go_ret;exact⟨by rw [HM.out,R1.out];rfl,h1⟩
 have R1:=V (show(fJ e.body).isSome=true by rw [hm];rfl);have B1:=B0.below hb B0.lt;have h1:=h0.trans (hb.mono h0.size);have c0:w2.cell? ⟨w.heap.size,0,none⟩=some (.slice a1 e.locals.length LO):=B1.cell 0;clear hm hb c1;go_wp2_with fail;refine(oh _ e.locals 32 _ (HU.out.1.1.below h1)).mono ?_;rintro x w3 ⟨rfl,hb⟩;obtain⟨r2,hr⟩:∃r,decide ((e.locals.length:Int) <=32/\∀k∈e.locals,kindOk k)=r:=⟨_,rfl⟩;rw [hr];have R2:=V hr;clear hr;have B2:=B1.below hb B1.lt;have h2:=h1.trans (hb.mono h1.size);have c1:w3.cell? ⟨w.heap.size,1,none⟩=some (.slice a2 e.body.length LA):=B2.cell 1;clear c0;cases r2
 ·go_wp2
  go_ret;exact⟨by rw [HM.out,R1.out,R2.out];rfl,h2⟩
 ·go_wp2_with fail
  refine(vH _ e.body 300 _ (HU.out.1.2.below h2)).mono ?_;rintro x w4 ⟨rfl,hb⟩;obtain⟨r3,hr⟩:∃r,decide ((e.body.length:Int) <=300/\∀y∈e.body,y.may)=r:=⟨_,rfl⟩;rw [hr];have R3:=V hr;clear hr;go_wp2;go_ret;exact⟨by rw [HM.out,R1.out,R2.out,R3.out];rfl,h2.trans (hb.mono h2.size)⟩
theorem sO (x:fN) (least ff:Int) (w:World):Calls prog 109 #[.agg #[.bool x.has, .int .i64 x.min, .int .i64 x.max], .int .i64 least, .int .i64 ff] w (ew (decide (x.may least ff)) w):=by
 obtain⟨has,mn,mx⟩:=x;cases has with
 | false=>
  by_cases q1:mn=0
  ·have f1:=eI q1
   have HB:Hid (decide (fN.may least ff ⟨false,mn,mx⟩)=(mx==0)):=V (by rw [dv];simp [fN.may,q1]);clear q1;go_enter func109,ntmps109;go_wp2;go_ret;exact⟨by rw [HB.out];rfl,(an _ _).alloc (ag _) _⟩
  ·have f1:=dR q1
   have HB:Hid (decide (fN.may least ff ⟨false,mn,mx⟩)=false):=V (by simp [fN.may,q1]);clear q1;go_enter func109,ntmps109;go_wp2;go_ret;exact⟨by rw [HB.out];rfl,(an _ _).alloc (ag _) _⟩
 | true=>
  by_cases q1:0 <=mn
  ·have f1:decide (0 <=mn)=true:=ay q1
   by_cases q2:mn <=least
   ·have f2:decide (mn <=least)=true:=ay q2
    by_cases q3: -1 <=mx
    ·have f3:decide (-1 <=mx)=true:=ay q3
     have HB:Hid (decide (fN.may least ff ⟨true,mn,mx⟩)=decide (mx <=ff)):=V (by simp [fN.may,q1,q2,q3]);clear q1 q2 q3;go_enter func109,ntmps109;go_wp2;go_ret;exact⟨by rw [HB.out];rfl,(an _ _).alloc (ag _) _⟩
    ·have f3:decide (-1 <=mx)=false:=aw q3
     have HB:Hid (decide (fN.may least ff ⟨true,mn,mx⟩)=false):=V (by simp only [fN.may,cO,q3,false_and,and_false];rfl);clear q1 q2 q3;go_enter func109,ntmps109;go_wp2;go_ret;exact⟨by rw [HB.out];rfl,(an _ _).alloc (ag _) _⟩
   ·have f2:decide (mn <=least)=false:=aw q2
    have HB:Hid (decide (fN.may least ff ⟨true,mn,mx⟩)=false):=V (by simp only [fN.may,cO,q2,false_and,and_false];rfl);clear q1 q2;go_enter func109,ntmps109;go_wp2;go_ret;exact⟨by rw [HB.out];rfl,(an _ _).alloc (ag _) _⟩
  ·have f1:decide (0 <=mn)=false:=aw q1
   have HB:Hid (decide (fN.may least ff ⟨true,mn,mx⟩)=false):=V (by simp only [fN.may,cO,q1,false_and];rfl);clear q1;go_enter func109,ntmps109;go_wp2;go_ret;exact⟨by rw [HB.out];rfl,(an _ _).alloc (ag _) _⟩
theorem eo.open {w:World} {u:eE} {m:eu} (h:eo w u m):∃a0 c0 a1 c1 a2 c2 a3 c3 a4 c4 a5 c5 a6 c6 a7 c7,
  u=⟨.slice a0 m.types.length c0, .slice a1 m.imports.length c1, .slice a2 m.funcs.length c2, .slice a3 m.globals.length c3, .slice a4 m.dY.length c4, .slice a5 m.elems.length c5, .slice a6 m.eh.length c6, .slice a7 m.eA.length c7⟩:=by
 obtain⟨h1,h2,h3,h4,h5,h6,h7,h8,_⟩:=h;obtain⟨u0,u1,u2,u3,u4,u5,u6,u7⟩:=u;obtain⟨a0,c0,e0,-⟩:=ef.slice h1;obtain⟨a1,c1,e1,-⟩:=fk h2;obtain⟨a2,c2,e2,-⟩:=fk h3;obtain⟨a3,c3,e3,-⟩:=fk h4;obtain⟨a4,c4,e4,-⟩:=fk h5;obtain⟨a5,c5,e5,-⟩:=ef.slice h6;obtain⟨a6,c6,e6,-⟩:=ef.slice h7;obtain⟨a7,c7,e7,-⟩:=ef.slice h8;simp only at e0 e1 e2 e3 e4 e5 e6 e7;subst e0 e1 e2 e3 e4 e5 e6 e7;exact⟨a0,c0,a1,c1,a2,c2,a3,c3,a4,c4,a5,c5,a6,c6,a7,c7,rfl⟩
def eu.words (m:eu):Prop:=(∀x∈m.imports,x.mod.size <=1000000000000/\x.name.size <=1000000000000)/\∀x∈m.dY,x.name.size <=1000000000000
theorem Da (m:eu) (u:eE) (w:World) (hm:eo w u m) (hs:m.words):Calls prog 108 #[.agg (u.cells m)] w (ew (decide m.lists) w):=by
 have HI:=V hm;have HS:=V hs;obtain⟨a0,c0,a1,c1,a2,c2,a3,c3,a4,c4,a5,c5,a6,c6,a7,c7,rfl⟩:=hm.open;have hil:m.imports.length <=9223372036854775807:=by
  obtain⟨_,_,_,h1,h2⟩:=fk HI.out.2.1;omega
 clear hm hs;have HM:Hid (decide m.lists=(decide ((m.types.length:Int) <=16/\∀x∈m.types,x.may)&&(decide ((m.imports.length:Int) <=16/\∀x∈m.imports,x.may)&&(decide ((m.funcs.length:Int) <=16 - m.imports.length/\∀n∈m.funcs,fO n)&&(decide ((m.globals.length:Int) <=16/\∀x∈m.globals,x.init.may)&&(decide ((m.dY.length:Int) <=16/\∀x∈m.dY,x.may)&&(decide ((m.elems.length:Int) <=16/\∀x∈m.elems,x.may)&&decide ((m.eA.length:Int) <=16/\∀x∈m.eA,x.may)))))))):=V (by
  simp only [<- cF];refine dc.2 ?_;unfold eu.lists
  constructor
  ·rintro⟨⟨⟨p1,q1⟩,⟨p2,q2⟩,p3,q3⟩,⟨p4,q4⟩,⟨p5,q5⟩,⟨p6,q6⟩,p7,q7⟩
   exact⟨⟨by omega,q1⟩,⟨by omega,q2⟩,⟨p3,q3⟩,⟨by omega,q4⟩,⟨by omega,q5⟩,⟨by omega,q6⟩,by omega,q7⟩
  ·rintro⟨⟨p1,q1⟩,⟨p2,q2⟩,⟨p3,q3⟩,⟨p4,q4⟩,⟨p5,q5⟩,⟨p6,q6⟩,p7,q7⟩
   exact⟨⟨⟨by omega,q1⟩,⟨by omega,q2⟩,p3,q3⟩,⟨by omega,q4⟩,⟨by omega,q5⟩,⟨by omega,q6⟩,by omega,q7⟩)
 simp only [eE.cells];have B0:=eD.new w #[.slice a0 m.types.length c0, .slice a1 m.imports.length c1, .slice a2 m.funcs.length c2, .bool m.table.has, .int .i64 m.table.min, .int .i64 m.table.max, .bool m.mem.has, .int .i64 m.mem.min, .int .i64 m.mem.max, .slice a3 m.globals.length c3, .slice a4 m.dY.length c4, .slice a5 m.elems.length c5, .slice a6 m.eh.length c6, .slice a7 m.eA.length c7] 35;have h0:Below w.heap.size w (w.alloc (.cells #[.slice a0 m.types.length c0, .slice a1 m.imports.length c1, .slice a2 m.funcs.length c2, .bool m.table.has, .int .i64 m.table.min, .int .i64 m.table.max, .bool m.mem.has, .int .i64 m.mem.min, .int .i64 m.mem.max, .slice a3 m.globals.length c3, .slice a4 m.dY.length c4, .slice a5 m.elems.length c5, .slice a6 m.eh.length c6, .slice a7 m.eA.length c7] 35)):=(an _ _).alloc (ag _) _;go_enter func108,ntmps108;go_wp2_with fail;refine(FV (fun x=>decide x.may) _ m.types _ (HI.out.1.below h0) 151 16 (fun _ _=>by rfl) (fun e _ u w' _ hu=>FQ e u w' hu)).mono ?_;rw [kE];rintro x w1 ⟨rfl,hb⟩;obtain⟨r1,hr⟩:∃r,decide ((m.types.length:Int) <=16/\∀x∈m.types,x.may)=r:=⟨_,rfl⟩;rw [hr];have R1:=V hr;clear hr;have B1:=B0.below hb B0.lt;have h1:=h0.trans (hb.mono h0.size);clear hb;have g1:w1.cell? ⟨w.heap.size,1,none⟩=some (.slice a1 m.imports.length c1):=B1.cell 1;go_wp2_with fail;refine(Gz (fun x=>decide x.may) _ m.imports _ (HI.out.2.1.below h1) 153 16 (fun _ _=>by rfl) (fun e he w' _=>GL e w' (HS.out.1 e he))).mono ?_;rw [kE];rintro x w2 ⟨rfl,hb⟩;obtain⟨r2,hr⟩:∃r,decide ((m.imports.length:Int) <=16/\∀x∈m.imports,x.may)=r:=⟨_,rfl⟩;rw [hr];have R2:=V hr;clear hr;have B2:=B1.below hb B1.lt;have h2:=h1.trans (hb.mono h1.size);clear hb;clear g1;have g1:w2.cell? ⟨w.heap.size,1,none⟩=some (.slice a1 m.imports.length c1):=B2.cell 1;have g2:w2.cell? ⟨w.heap.size,2,none⟩=some (.slice a2 m.funcs.length c2):=B2.cell 2;go_wp2_with fail;refine(qh _ m.funcs (16 - m.imports.length) _ (HI.out.2.2.1.below h2)).mono ?_;rintro x w3 ⟨rfl,hb⟩;obtain⟨r3,hr⟩:∃r,decide ((m.funcs.length:Int) <=16 - m.imports.length/\∀n∈m.funcs,fO n)=r:=⟨_,rfl⟩;rw [hr];have R3:=V hr;clear hr;have B3:=B2.below hb B2.lt;have h3:=h2.trans (hb.mono h2.size);clear hb;clear g1 g2 hil;have g1:w3.cell? ⟨w.heap.size,9,none⟩=some (.slice a3 m.globals.length c3):=B3.cell 9;go_wp2_with fail;refine(Ex (fun x=>decide x.init.may) _ m.globals _ (HI.out.2.2.2.1.below h3) 157 16 (fun _ _=>by rfl) (fun e _ w' _=>G3 e w')).mono ?_;rw [kE];rintro x w4 ⟨rfl,hb⟩;obtain⟨r4,hr⟩:∃r,decide ((m.globals.length:Int) <=16/\∀x∈m.globals,x.init.may)=r:=⟨_,rfl⟩;rw [hr];have R4:=V hr;clear hr;have B4:=B3.below hb B3.lt;have h4:=h3.trans (hb.mono h3.size);clear hb;clear g1;have g1:w4.cell? ⟨w.heap.size,10,none⟩=some (.slice a4 m.dY.length c4):=B4.cell 10;go_wp2_with fail;refine(GR (fun x=>decide x.may) _ m.dY _ (HI.out.2.2.2.2.1.below h4) 159 16 (fun _ _=>by rfl) (fun e he w' _=>Gu e w' (HS.out.2 e he))).mono ?_;rw [kE];rintro x w5 ⟨rfl,hb⟩;obtain⟨r5,hr⟩:∃r,decide ((m.dY.length:Int) <=16/\∀x∈m.dY,x.may)=r:=⟨_,rfl⟩;rw [hr];have R5:=V hr;clear hr;have B5:=B4.below hb B4.lt;have h5:=h4.trans (hb.mono h4.size);clear hb;clear g1;have g1:w5.cell? ⟨w.heap.size,11,none⟩=some (.slice a5 m.elems.length c5):=B5.cell 11;go_wp2_with fail;refine(E4 (fun x=>decide x.may) _ m.elems _ (ef.below HI.out.2.2.2.2.2.1 h5 (fun _ _ h=>h.below h5)) 161 16 (fun _ _=>by rfl) (fun e _ u w' _ hu=>EX e u w' hu)).mono ?_;rw [kE];rintro x w6 ⟨rfl,hb⟩;obtain⟨r6,hr⟩:∃r,decide ((m.elems.length:Int) <=16/\∀x∈m.elems,x.may)=r:=⟨_,rfl⟩;rw [hr];have R6:=V hr;clear hr;have B6:=B5.below hb B5.lt;have h6:=h5.trans (hb.mono h5.size);clear hb;clear g1;have g1:w6.cell? ⟨w.heap.size,13,none⟩=some (.slice a7 m.eA.length c7):=B6.cell 13;go_wp2_with fail;refine(Eh (fun x=>decide x.may) _ m.eA _ (ef.below HI.out.2.2.2.2.2.2.2.1 h6 (fun _ _ h=>h.below h6)) 164 16 (fun _ _=>by rfl) (fun e _ u w' _ hu=>GA e u w' hu)).mono ?_;rw [kE];rintro x w7 ⟨rfl,hb⟩;obtain⟨r7,hr⟩:∃r,decide ((m.eA.length:Int) <=16/\∀x∈m.eA,x.may)=r:=⟨_,rfl⟩;rw [hr];have R7:=V hr;clear hr;have h7:=h6.trans (hb.mono h6.size);clear g1 B0 B1 B2 B3 B4 B5 B6 h0 h1 h2 h3 h4 h5 h6 hb;cases r1
 ·skip
  go_wp2;go_ret;exact⟨by rw [HM.out,R1.out];rfl,h7⟩
 cases r2
 ·skip
  go_wp2;go_ret;exact⟨by rw [HM.out,R1.out,R2.out];rfl,h7⟩
 cases r3
 ·skip
  go_wp2;go_ret;exact⟨by rw [HM.out,R1.out,R2.out,R3.out];rfl,h7⟩
 cases r4
 ·skip
  go_wp2;go_ret;exact⟨by rw [HM.out,R1.out,R2.out,R3.out,R4.out];rfl,h7⟩
 cases r5
 ·skip
  go_wp2;go_ret;exact⟨by rw [HM.out,R1.out,R2.out,R3.out,R4.out,R5.out];rfl,h7⟩
 cases r6
 ·skip
  go_wp2;go_ret;exact⟨by rw [HM.out,R1.out,R2.out,R3.out,R4.out,R5.out,R6.out];rfl,h7⟩
 go_wp2;go_ret;exact⟨by rw [HM.out,R1.out,R2.out,R3.out,R4.out,R5.out,R6.out,R7.out];rfl,h7⟩
def A6 (m:eu) (w:World) (e:Ending) (w':World):Prop:=∃v,e= .returned v/\eG w' v (fA m)/\Below w.heap.size w w'
theorem eo.J9 {w:World} {u:eE} {m:eu} (h:eo w u m):∀x∈m.eh,∀y∈x.body,y.ok:=by
 obtain⟨_,_,_,_,_,_,⟨us,h1,_,h3⟩,_⟩:=h;intro x hx;obtain⟨i,hi⟩:=List.getElem?_of_mem hx;have LD:=(aG.1 hi).1;obtain⟨u',hu⟩:∃u',us[i]?=some u':=⟨_,aq (by rw [h1];exact LD)⟩;exact(h3 i x u' hi hu).1.2.J9
theorem wE {least ff:Int} {x y:fN} (h:x.may least ff) (ho:x.ok) (hy:y∈oneOf x):0 <=y.min/\ -1 <=y.max/\y.ok:=by
 obtain⟨rfl,hh⟩:=vX hy;unfold fN.may at h;rw [aD hh]at h;exact⟨h.1.1,h.2.1,ho⟩
theorem sA (m:eu) (u:eE) (w:World) (hm:eo w u m) (h1:m.vD):Calls prog 110 #[.agg (u.cells m)] w (A6 m w):=by
 have HI:=V hm;have HF:=V (h1.fits hm.2.2.2.2.2.2.2.2.2.2.2.2.1 hm.J9);have HM:=V h1;obtain⟨a0,c0,a1,c1,a2,c2,a3,c3,a4,c4,a5,c5,a6,c6,a7,c7,rfl⟩:=hm.open;clear hm h1;simp only [eE.cells];have HX:=V ((eD.new w #[.slice a0 m.types.length c0, .slice a1 m.imports.length c1, .slice a2 m.funcs.length c2, .bool m.table.has, .int .i64 m.table.min, .int .i64 m.table.max, .bool m.mem.has, .int .i64 m.mem.min, .int .i64 m.mem.max, .slice a3 m.globals.length c3, .slice a4 m.dY.length c4, .slice a5 m.elems.length c5, .slice a6 m.eh.length c6, .slice a7 m.eA.length c7] 35).alloc (.cells #[.int .u8 0, .int .u8 97, .int .u8 115, .int .u8 109, .int .u8 1, .int .u8 0, .int .u8 0, .int .u8 0] 5 (8,9)));have HS:=V (((an w.heap.size w).alloc (ag _) (.cells #[.slice a0 m.types.length c0, .slice a1 m.imports.length c1, .slice a2 m.funcs.length c2, .bool m.table.has, .int .i64 m.table.min, .int .i64 m.table.max, .bool m.mem.has, .int .i64 m.mem.min, .int .i64 m.mem.max, .slice a3 m.globals.length c3, .slice a4 m.dY.length c4, .slice a5 m.elems.length c5, .slice a6 m.eh.length c6, .slice a7 m.eA.length c7] 35)).alloc (by rw [aC];omega) (.cells #[.int .u8 0, .int .u8 97, .int .u8 115, .int .u8 109, .int .u8 1, .int .u8 0, .int .u8 0, .int .u8 0] 5 (8,9)));have HW:Hid (xy _ _ (w.heap.size+1) ((w.alloc (.cells #[.slice a0 m.types.length c0, .slice a1 m.imports.length c1, .slice a2 m.funcs.length c2, .bool m.table.has, .int .i64 m.table.min, .int .i64 m.table.max, .bool m.mem.has, .int .i64 m.mem.min, .int .i64 m.mem.max, .slice a3 m.globals.length c3, .slice a4 m.dY.length c4, .slice a5 m.elems.length c5, .slice a6 m.eh.length c6, .slice a7 m.eA.length c7] 35)).alloc (.cells #[.int .u8 0, .int .u8 97, .int .u8 115, .int .u8 109, .int .u8 1, .int .u8 0, .int .u8 0, .int .u8 0] 5 (8,9))) (.slice (some ⟨w.heap.size+1,0,none⟩) 8 8) fw):=V (xy.refl (.inr (by
  have hb:=dn (w.alloc (.cells #[.slice a0 m.types.length c0, .slice a1 m.imports.length c1, .slice a2 m.funcs.length c2, .bool m.table.has, .int .i64 m.table.min, .int .i64 m.table.max, .bool m.mem.has, .int .i64 m.mem.min, .int .i64 m.mem.max, .slice a3 m.globals.length c3, .slice a4 m.dY.length c4, .slice a5 m.elems.length c5, .slice a6 m.eh.length c6, .slice a7 m.eA.length c7] 35)) (.cells #[.int .u8 0, .int .u8 97, .int .u8 115, .int .u8 109, .int .u8 1, .int .u8 0, .int .u8 0, .int .u8 0] 5 (8,9));rw [aC]at hb;refine⟨w.heap.size+1,rfl,⟨_,8,rfl,ag _,by decide,fun i x hx=>⟨w.heap.size+1,0,rfl,?_⟩⟩,ag _,by rw [aC,aC];omega⟩;rw [World.cell?,bR];simp only [hb]
  match i,hx with
  | 0,hx | 1,hx | 2,hx | 3,hx | 4,hx | 5,hx | 6,hx | 7,hx=>
   injection hx with hx;subst hx;rfl)))
 have M6:=Lib.run_convert_bytes_const (P:=prog) (w.alloc (.cells #[.slice a0 m.types.length c0, .slice a1 m.imports.length c1, .slice a2 m.funcs.length c2, .bool m.table.has, .int .i64 m.table.min, .int .i64 m.table.max, .bool m.mem.has, .int .i64 m.mem.min, .int .i64 m.mem.max, .slice a3 m.globals.length c3, .slice a4 m.dY.length c4, .slice a5 m.elems.length c5, .slice a6 m.eh.length c6, .slice a7 m.eA.length c7] 35)) 104 5 #[.int .u8 0, .int .u8 97, .int .u8 115, .int .u8 109, .int .u8 1, .int .u8 0, .int .u8 0, .int .u8 0] 8 8 (by kernel_rfl) (by kernel_rfl);rw [aC]at M6;go_enter func110,ntmps110;go_wp2_with fail;generalize(w.alloc (.cells #[.slice a0 m.types.length c0, .slice a1 m.imports.length c1, .slice a2 m.funcs.length c2, .bool m.table.has, .int .i64 m.table.min, .int .i64 m.table.max, .bool m.mem.has, .int .i64 m.mem.min, .int .i64 m.mem.max, .slice a3 m.globals.length c3, .slice a4 m.dY.length c4, .slice a5 m.elems.length c5, .slice a6 m.eh.length c6, .slice a7 m.eA.length c7] 35)).alloc (.cells #[.int .u8 0, .int .u8 97, .int .u8 115, .int .u8 109, .int .u8 1, .int .u8 0, .int .u8 0, .int .u8 0] 5 (8,9))=w1 at HX HS HW⊢;have HB:=V (show w.heap.size+1 <=w1.heap.size from HX.out.lt);have g0:w1.cell? ⟨w.heap.size,0,none⟩=some (.slice a0 m.types.length c0):=HX.out.cell 0;go_wp2_with fail;refine(EI w lE 1 (by omega) _ _ _ m.types (w.heap.size+1) w1 166 (fun _ _=>by rfl) HI.out.1 HW.out.1 HB.out HS.out (by have hf:=HF.out;have hh:fw.length=8:=rfl;have:=hf.v1;have:=hf.v2;have:=hf.v3;have:=hf.v4;have:=hf.v5;have:=hf.v6;have:=hf.v7;have:=hf.v9;have:=hf.v10;have:=hf.v11;have:=hf.s1;have:=hf.s2;have:=hf.s3;have:=hf.s4;have:=hf.s5;have:=hf.s6;have:=hf.s7;have:=hf.s9;have:=hf.Hb;have:=hf.Hc;(try simp only [ah]);omega) (fun e he u hu b xs w1 B ho hx hB hs=>IB _ e u hu (HM.out.2.1.1.1.2 e he) b xs w1 B ho hx hB hs)).mono ?_;rintro e w2 ⟨v2,rfl,ho,hk,hs⟩;have HX:=V (HX.out.keeps hk (fun h=>by have:=(HW.out.1.lt h).1;omega));have HS:=V (HS.out.trans (hk.below HS.out.size (fun i hi=>by have:=(HW.out.1.lt hi).1;omega)));have HW:=V (HW.out.step ⟨ho,hk,hs⟩);have HB:=V (aQ HB.out hk.size);clear ho hk hs;clear g0;have g1:w2.cell? ⟨w.heap.size,1,none⟩=some (.slice a1 m.imports.length c1):=HX.out.cell 1;go_wp2_with fail;refine(FT w ow 2 (by omega) _ _ _ m.imports (w.heap.size+1) w2 170 (fun _ _=>by rfl) HI.out.2.1 HW.out.1 HB.out HS.out (by have hf:=HF.out;have hh:fw.length=8:=rfl;have:=hf.v1;have:=hf.v2;have:=hf.v3;have:=hf.v4;have:=hf.v5;have:=hf.v6;have:=hf.v7;have:=hf.v9;have:=hf.v10;have:=hf.v11;have:=hf.s1;have:=hf.s2;have:=hf.s3;have:=hf.s4;have:=hf.s5;have:=hf.s6;have:=hf.s7;have:=hf.s9;have:=hf.Hb;have:=hf.Hc;(try simp only [ah]);omega) (fun e he b xs w1 B ho hx hB _=>Hs e b xs w1 B ho hx hB (HM.out.2.1.1.2.1.2 e he))).mono ?_;rintro e w3 ⟨v3,rfl,ho,hk,hs⟩;have HX:=V (HX.out.keeps hk (fun h=>by have:=(HW.out.1.lt h).1;omega));have HS:=V (HS.out.trans (hk.below HS.out.size (fun i hi=>by have:=(HW.out.1.lt hi).1;omega)));have HW:=V (HW.out.step ⟨ho,hk,hs⟩);have HB:=V (aQ HB.out hk.size);clear ho hk hs;clear g1;have g2:w3.cell? ⟨w.heap.size,2,none⟩=some (.slice a2 m.funcs.length c2):=HX.out.cell 2;go_wp2_with fail;refine(Bm w sR 3 (by omega) _ _ _ m.funcs (w.heap.size+1) w3 171 (fun _ _=>by rfl) HI.out.2.2.1 HW.out.1 HB.out HS.out (by have hf:=HF.out;have hh:fw.length=8:=rfl;have:=hf.v1;have:=hf.v2;have:=hf.v3;have:=hf.v4;have:=hf.v5;have:=hf.v6;have:=hf.v7;have:=hf.v9;have:=hf.v10;have:=hf.v11;have:=hf.s1;have:=hf.s2;have:=hf.s3;have:=hf.s4;have:=hf.s5;have:=hf.s6;have:=hf.s7;have:=hf.s9;have:=hf.Hb;have:=hf.Hc;(try simp only [ah]);omega) (fun e he b xs w1 B ho hx hB _=>mw e (HM.out.2.1.1.2.2.2 e he) b xs B w1 ho (by omega) hB)).mono ?_;rintro e w4 ⟨v4,rfl,ho,hk,hs⟩;have HX:=V (HX.out.keeps hk (fun h=>by have:=(HW.out.1.lt h).1;omega));have HS:=V (HS.out.trans (hk.below HS.out.size (fun i hi=>by have:=(HW.out.1.lt hi).1;omega)));have HW:=V (HW.out.step ⟨ho,hk,hs⟩);have HB:=V (aQ HB.out hk.size);clear ho hk hs;clear g2;have g3:w4.cell? ⟨w.heap.size,3,none⟩=some (.bool m.table.has):=HX.out.cell 3;have g4:w4.cell? ⟨w.heap.size,4,none⟩=some (.int .i64 m.table.min):=HX.out.cell 4;have g5:w4.cell? ⟨w.heap.size,5,none⟩=some (.int .i64 m.table.max):=HX.out.cell 5;go_wp2_with fail;refine(Ct m.table _).mono ?_;rintro e w5 ⟨vo,rfl,hl,hb⟩;have HX:=V (HX.out.below hb HX.out.lt);have HS:=V (HS.out.trans (hb.mono HS.out.size));have HW:=V (HW.out.below hb);have HB:=V (aQ HB.out hb.size);have HLL:=V (show ee 3 sP w5 vo (oneOf m.table)from hl);clear hl hb;obtain⟨ax,cx,rfl,hcx1,hcx2⟩:=fk HLL.out;clear hcx1 hcx2;go_wp2_with fail;refine(zc w5 jy 4 (by omega) _ _ _ (oneOf m.table) (w.heap.size+1) w5 176 (fun _ _=>by rfl) HLL.out HW.out.1 HB.out (an _ _) (by have hf:=HF.out;have hh:fw.length=8:=rfl;have:=hf.v1;have:=hf.v2;have:=hf.v3;have:=hf.v4;have:=hf.v5;have:=hf.v6;have:=hf.v7;have:=hf.v9;have:=hf.v10;have:=hf.v11;have:=hf.s1;have:=hf.s2;have:=hf.s3;have:=hf.s4;have:=hf.s5;have:=hf.s6;have:=hf.s7;have:=hf.s9;have:=hf.Hb;have:=hf.Hc;(try simp only [ah]);omega) (fun e he b xs w1 B ho hx hB _=>by obtain⟨h1,h2,h3⟩:=wE HM.out.2.2.1 HI.out.2.2.2.2.2.2.2.2.2.2.1 he;exact Io e b xs w1 B ho hx hB h1 h2 h3)).mono ?_;rintro e w6 ⟨v6,rfl,ho,hk,hs⟩;have HX:=V (HX.out.keeps hk (fun h=>by have:=(HW.out.1.lt h).1;omega));have HS:=V (HS.out.trans (hk.below HS.out.size (fun i hi=>by have:=(HW.out.1.lt hi).1;omega)));have HW:=V (HW.out.step ⟨ho,hk,hs⟩);have HB:=V (aQ HB.out hk.size);clear ho hk hs;clear g3;clear g4;clear g5;have g6:w6.cell? ⟨w.heap.size,6,none⟩=some (.bool m.mem.has):=HX.out.cell 6;have g7:w6.cell? ⟨w.heap.size,7,none⟩=some (.int .i64 m.mem.min):=HX.out.cell 7;have g8:w6.cell? ⟨w.heap.size,8,none⟩=some (.int .i64 m.mem.max):=HX.out.cell 8;go_wp2_with fail;refine(Ct m.mem _).mono ?_;rintro e w7 ⟨vo,rfl,hl,hb⟩;have HX:=V (HX.out.below hb HX.out.lt);have HS:=V (HS.out.trans (hb.mono HS.out.size));have HW:=V (HW.out.below hb);have HB:=V (aQ HB.out hb.size);have HLL:=V (show ee 3 sP w7 vo (oneOf m.mem)from hl);clear hl hb;obtain⟨ax,cx,rfl,hcx1,hcx2⟩:=fk HLL.out;clear hcx1 hcx2;go_wp2_with fail;refine(zc w7 gM 5 (by omega) _ _ _ (oneOf m.mem) (w.heap.size+1) w7 177 (fun _ _=>by rfl) HLL.out HW.out.1 HB.out (an _ _) (by have hf:=HF.out;have hh:fw.length=8:=rfl;have:=hf.v1;have:=hf.v2;have:=hf.v3;have:=hf.v4;have:=hf.v5;have:=hf.v6;have:=hf.v7;have:=hf.v9;have:=hf.v10;have:=hf.v11;have:=hf.s1;have:=hf.s2;have:=hf.s3;have:=hf.s4;have:=hf.s5;have:=hf.s6;have:=hf.s7;have:=hf.s9;have:=hf.Hb;have:=hf.Hc;(try simp only [ah]);omega) (fun e he b xs w1 B ho hx hB _=>by obtain⟨h1,h2,h3⟩:=wE HM.out.2.2.2 HI.out.2.2.2.2.2.2.2.2.2.2.2.1 he;exact pU b xs e B w1 ho (by omega) hB h1 h2 h3)).mono ?_;rintro e w8 ⟨v8,rfl,ho,hk,hs⟩;have HX:=V (HX.out.keeps hk (fun h=>by have:=(HW.out.1.lt h).1;omega));have HS:=V (HS.out.trans (hk.below HS.out.size (fun i hi=>by have:=(HW.out.1.lt hi).1;omega)));have HW:=V (HW.out.step ⟨ho,hk,hs⟩);have HB:=V (aQ HB.out hk.size);clear ho hk hs;clear g6;clear g7;clear g8;have g9:w8.cell? ⟨w.heap.size,9,none⟩=some (.slice a3 m.globals.length c3):=HX.out.cell 9;go_wp2_with fail;refine(E8 w kQ 6 (by omega) _ _ _ m.globals (w.heap.size+1) w8 179 (fun _ _=>by rfl) HI.out.2.2.2.1 HW.out.1 HB.out HS.out (by have hf:=HF.out;have hh:fw.length=8:=rfl;have:=hf.v1;have:=hf.v2;have:=hf.v3;have:=hf.v4;have:=hf.v5;have:=hf.v6;have:=hf.v7;have:=hf.v9;have:=hf.v10;have:=hf.v11;have:=hf.s1;have:=hf.s2;have:=hf.s3;have:=hf.s4;have:=hf.s5;have:=hf.s6;have:=hf.s7;have:=hf.s9;have:=hf.Hb;have:=hf.Hc;(try simp only [ah]);omega) (fun e he b xs w1 B ho hx hB _=>IK e b xs w1 B ho hx hB (HM.out.2.1.2.1.2 e he) (HI.out.2.2.2.2.2.2.2.2.2.2.2.2.1 e he))).mono ?_;rintro e w9 ⟨v9,rfl,ho,hk,hs⟩;have HX:=V (HX.out.keeps hk (fun h=>by have:=(HW.out.1.lt h).1;omega));have HS:=V (HS.out.trans (hk.below HS.out.size (fun i hi=>by have:=(HW.out.1.lt hi).1;omega)));have HW:=V (HW.out.step ⟨ho,hk,hs⟩);have HB:=V (aQ HB.out hk.size);clear ho hk hs;clear g9;have L8:w9.cell? ⟨w.heap.size,10,none⟩=some (.slice a4 m.dY.length c4):=HX.out.cell 10;go_wp2_with fail;refine(FL w oM 7 (by omega) _ _ _ m.dY (w.heap.size+1) w9 182 (fun _ _=>by rfl) HI.out.2.2.2.2.1 HW.out.1 HB.out HS.out (by have hf:=HF.out;have hh:fw.length=8:=rfl;have:=hf.v1;have:=hf.v2;have:=hf.v3;have:=hf.v4;have:=hf.v5;have:=hf.v6;have:=hf.v7;have:=hf.v9;have:=hf.v10;have:=hf.v11;have:=hf.s1;have:=hf.s2;have:=hf.s3;have:=hf.s4;have:=hf.s5;have:=hf.s6;have:=hf.s7;have:=hf.s9;have:=hf.Hb;have:=hf.Hc;(try simp only [ah]);omega) (fun e he b xs w1 B ho hx hB _=>Hq e b xs w1 B ho hx hB (HM.out.2.1.2.2.1.2 e he))).mono ?_;rintro e w10 ⟨v10,rfl,ho,hk,hs⟩;have HX:=V (HX.out.keeps hk (fun h=>by have:=(HW.out.1.lt h).1;omega));have HS:=V (HS.out.trans (hk.below HS.out.size (fun i hi=>by have:=(HW.out.1.lt hi).1;omega)));have HW:=V (HW.out.step ⟨ho,hk,hs⟩);have HB:=V (aQ HB.out hk.size);clear ho hk hs;clear L8;have Mb:w10.cell? ⟨w.heap.size,11,none⟩=some (.slice a5 m.elems.length c5):=HX.out.cell 11;go_wp2_with fail;refine(Fo w lP 9 (by omega) _ _ _ m.elems (w.heap.size+1) w10 184 (fun _ _=>by rfl) HI.out.2.2.2.2.2.1 HW.out.1 HB.out HS.out (by have hf:=HF.out;have hh:fw.length=8:=rfl;have:=hf.v1;have:=hf.v2;have:=hf.v3;have:=hf.v4;have:=hf.v5;have:=hf.v6;have:=hf.v7;have:=hf.v9;have:=hf.v10;have:=hf.v11;have:=hf.s1;have:=hf.s2;have:=hf.s3;have:=hf.s4;have:=hf.s5;have:=hf.s6;have:=hf.s7;have:=hf.s9;have:=hf.Hb;have:=hf.Hc;(try simp only [ah]);omega) (fun e he u hu b xs w1 B ho hx hB hs=>Hy _ e u hu (HM.out.2.1.2.2.2.1.2 e he) b xs w1 B ho hx hB hs)).mono ?_;rintro e Pq ⟨v11,rfl,ho,hk,hs⟩;have HX:=V (HX.out.keeps hk (fun h=>by have:=(HW.out.1.lt h).1;omega));have HS:=V (HS.out.trans (hk.below HS.out.size (fun i hi=>by have:=(HW.out.1.lt hi).1;omega)));have HW:=V (HW.out.step ⟨ho,hk,hs⟩);have HB:=V (aQ HB.out hk.size);clear ho hk hs;clear Mb;have Mc:Pq.cell? ⟨w.heap.size,12,none⟩=some (.slice a6 m.eh.length c6):=HX.out.cell 12;go_wp2_with fail;refine(FA w jV 10 (by omega) _ _ _ m.eh (w.heap.size+1) Pq 187 (fun _ _=>by rfl) HI.out.2.2.2.2.2.2.1 HW.out.1 HB.out HS.out (by have hf:=HF.out;have hh:fw.length=8:=rfl;have:=hf.v1;have:=hf.v2;have:=hf.v3;have:=hf.v4;have:=hf.v5;have:=hf.v6;have:=hf.v7;have:=hf.v9;have:=hf.v10;have:=hf.v11;have:=hf.s1;have:=hf.s2;have:=hf.s3;have:=hf.s4;have:=hf.s5;have:=hf.s6;have:=hf.s7;have:=hf.s9;have:=hf.Hb;have:=hf.Hc;(try simp only [ah]);omega) (fun e he u hu b xs w1 B ho hx hB hs=>IZ _ e u hu (HM.out.1.2.2 e he) b xs w1 B ho hx hB hs)).mono ?_;rintro e w12 ⟨v12,rfl,ho,hk,hs⟩;have HX:=V (HX.out.keeps hk (fun h=>by have:=(HW.out.1.lt h).1;omega));have HS:=V (HS.out.trans (hk.below HS.out.size (fun i hi=>by have:=(HW.out.1.lt hi).1;omega)));have HW:=V (HW.out.step ⟨ho,hk,hs⟩);have HB:=V (aQ HB.out hk.size);clear ho hk hs;clear Mc;have Md:w12.cell? ⟨w.heap.size,13,none⟩=some (.slice a7 m.eA.length c7):=HX.out.cell 13;go_wp2_with fail;refine(EO w oB 11 (by omega) _ _ _ m.eA (w.heap.size+1) w12 189 (fun _ _=>by rfl) HI.out.2.2.2.2.2.2.2.1 HW.out.1 HB.out HS.out (by have hf:=HF.out;have hh:fw.length=8:=rfl;have:=hf.v1;have:=hf.v2;have:=hf.v3;have:=hf.v4;have:=hf.v5;have:=hf.v6;have:=hf.v7;have:=hf.v9;have:=hf.v10;have:=hf.v11;have:=hf.s1;have:=hf.s2;have:=hf.s3;have:=hf.s4;have:=hf.s5;have:=hf.s6;have:=hf.s7;have:=hf.s9;have:=hf.Hb;have:=hf.Hc;(try simp only [ah]);omega) (fun e he u hu b xs w1 B ho hx hB hs=>Iu _ e u hu (HM.out.2.1.2.2.2.2.2 e he) b xs w1 B ho hx hB hs)).mono ?_;rintro e w13 ⟨v13,rfl,ho,hk,hs⟩;have HX:=V (HX.out.keeps hk (fun h=>by have:=(HW.out.1.lt h).1;omega));have HS:=V (HS.out.trans (hk.below HS.out.size (fun i hi=>by have:=(HW.out.1.lt hi).1;omega)));have HW:=V (HW.out.step ⟨ho,hk,hs⟩);have HB:=V (aQ HB.out hk.size);clear ho hk hs;clear Md;go_wp2;go_ret;exact⟨_,rfl,by rw [Bg];exact HW.out.1.gl,HS.out⟩
theorem eD.mod {w:World} {X:Nat} {t:TypeId} {x0 x1 x2 x3 x4 x5 x6 x7 x8 x9 x10 x11 x12 x13:Value} (h:eD w X #[x0,x1,x2,x3,x4,x5,x6,x7,x8,x9,x10,x11,x12,x13] t):
  w.cell? ⟨X,0,none⟩=some x0/\w.cell? ⟨X,1,none⟩=some x1/\w.cell? ⟨X,2,none⟩=some x2/\w.cell? ⟨X,3,none⟩=some x3/\w.cell? ⟨X,4,none⟩=some x4/\w.cell? ⟨X,5,none⟩=some x5/\w.cell? ⟨X,6,none⟩=some x6/\w.cell? ⟨X,7,none⟩=some x7/\w.cell? ⟨X,8,none⟩=some x8/\w.cell? ⟨X,9,none⟩=some x9/\w.cell? ⟨X,10,none⟩=some x10/\w.cell? ⟨X,11,none⟩=some x11/\w.cell? ⟨X,12,none⟩=some x12/\w.cell? ⟨X,13,none⟩=some x13:=
 ⟨h.cell 0,h.cell 1,h.cell 2,h.cell 3,h.cell 4,h.cell 5,h.cell 6,h.cell 7,h.cell 8,h.cell 9,h.cell 10,h.cell 11,h.cell 12,h.cell 13⟩
theorem kT (m:eu):decide m.may=(decide (m.eh.length=m.funcs.length)&&(decide ((m.eh.length:Int) <=16/\∀x∈m.eh,x.may)&&(decide m.lists&&(decide (m.table.may 16 1000)&&(decide (m.mem.may 16 65536)&&decide ((fA m).length <=8000)))))):=by
 simp only [<- cF];refine dc.2 ?_;unfold eu.may eu.vD eu.th
 constructor
 ·rintro⟨⟨⟨h1,h2,h3⟩,h4,h5,h6⟩,h7⟩
  exact⟨h1,⟨by omega,h3⟩,h4,h5,h6,h7⟩
 ·rintro⟨h1,⟨h2,h3⟩,h4,h5,h6,h7⟩
  exact⟨⟨⟨h1,by omega,h3⟩,h4,h5,h6⟩,h7⟩
theorem sW (m:eu) (u:eE) (w:World) (hm:eo w u m) (hs:m.words):Calls prog 72 #[.agg (u.cells m)] w (ew (decide m.may) w):=by
 have HI:=V hm;have Q7:=V hs;obtain⟨a0,c0,a1,c1,a2,c2,a3,c3,a4,c4,a5,c5,a6,c6,a7,c7,rfl⟩:=eo.open hm;clear hm hs;simp only [eE.cells];have HX:=V (eD.new w #[.slice a0 m.types.length c0, .slice a1 m.imports.length c1, .slice a2 m.funcs.length c2, .bool m.table.has, .int .i64 m.table.min, .int .i64 m.table.max, .bool m.mem.has, .int .i64 m.mem.min, .int .i64 m.mem.max, .slice a3 m.globals.length c3, .slice a4 m.dY.length c4, .slice a5 m.elems.length c5, .slice a6 m.eh.length c6, .slice a7 m.eA.length c7] 35);have HS:=V ((an w.heap.size w).alloc (ag _) (.cells #[.slice a0 m.types.length c0, .slice a1 m.imports.length c1, .slice a2 m.funcs.length c2, .bool m.table.has, .int .i64 m.table.min, .int .i64 m.table.max, .bool m.mem.has, .int .i64 m.mem.min, .int .i64 m.mem.max, .slice a3 m.globals.length c3, .slice a4 m.dY.length c4, .slice a5 m.elems.length c5, .slice a6 m.eh.length c6, .slice a7 m.eA.length c7] 35));by_cases q:m.eh.length=m.funcs.length;rotate_left
 ·have f1:((m.eh.length:Int)==(m.funcs.length:Int))=false:=dR (by omega)
  have f2:(m.eh.length==m.funcs.length)=false:=by simp [q]
  have HQ:=V (aw q);clear q;go_enter func72,ntmps72;go_wp2;go_ret;exact⟨by rw [kT,HQ.out];rfl,HS.out⟩
 have f1:((m.eh.length:Int)==(m.funcs.length:Int))=true:=eI (by omega);have f2:(m.eh.length==m.funcs.length)=true:=by simp [q]
 have HQ:=V (ay q);clear q;go_enter func72,ntmps72;go_wp2_with fail;refine(EL (fun x=>decide x.may) _ m.eh _ (ef.below HI.out.2.2.2.2.2.2.1 HS.out (fun _ _ h=>h.below HS.out)) 103 16 (fun _ _=>by rfl) (fun e _ u w' _ hu=>GZ e u w' hu)).mono ?_;rw [kE];rintro x w1 ⟨rfl,hb⟩;obtain⟨r1,hr⟩:∃r,decide ((m.eh.length:Int) <=16/\∀x∈m.eh,x.may)=r:=⟨_,rfl⟩;rw [hr];have R1:=V hr;have HX:=V (HX.out.below hb HX.out.lt);have HS:=V (HS.out.trans (hb.mono HS.out.size));clear hr hb;obtain⟨g0,g1,g2,g3,g4,g5,g6,g7,g8,g9,L8,Mb,Mc,Md⟩:=HX.out.mod;cases r1
 ·skip
  go_wp2;go_ret;exact⟨by rw [kT,HQ.out,R1.out];rfl,HS.out⟩
 go_wp2_with fail;refine(Da m ⟨.slice a0 m.types.length c0, .slice a1 m.imports.length c1, .slice a2 m.funcs.length c2, .slice a3 m.globals.length c3, .slice a4 m.dY.length c4, .slice a5 m.elems.length c5, .slice a6 m.eh.length c6, .slice a7 m.eA.length c7⟩ w1 (eo.below HI.out HS.out) Q7.out).mono ?_;rintro x w2 ⟨rfl,hb⟩;obtain⟨r2,hr⟩:∃r,decide m.lists=r:=⟨_,rfl⟩;rw [hr];have R2:=V hr;have HX:=V (HX.out.below hb HX.out.lt);have HS:=V (HS.out.trans (hb.mono HS.out.size));clear hr hb;clear g0 g1 g2 g3 g4 g5 g6 g7 g8 g9 L8 Mb Mc Md;obtain⟨g0,g1,g2,g3,g4,g5,g6,g7,g8,g9,L8,Mb,Mc,Md⟩:=HX.out.mod;cases r2
 ·skip
  go_wp2;go_ret;exact⟨by rw [kT,HQ.out,R1.out,R2.out];rfl,HS.out⟩
 go_wp2_with fail;refine(sO m.table 16 1000 w2).mono ?_;rintro x w3 ⟨rfl,hb⟩;obtain⟨r3,hr⟩:∃r,decide (m.table.may 16 1000)=r:=⟨_,rfl⟩;rw [hr];have R3:=V hr;have HX:=V (HX.out.below hb HX.out.lt);have HS:=V (HS.out.trans (hb.mono HS.out.size));clear hr hb;clear g0 g1 g2 g3 g4 g5 g6 g7 g8 g9 L8 Mb Mc Md;obtain⟨g0,g1,g2,g3,g4,g5,g6,g7,g8,g9,L8,Mb,Mc,Md⟩:=HX.out.mod;cases r3
 ·skip
  go_wp2;go_ret;exact⟨by rw [kT,HQ.out,R1.out,R2.out,R3.out];rfl,HS.out⟩
 go_wp2_with fail;refine(sO m.mem 16 65536 w3).mono ?_;rintro x w4 ⟨rfl,hb⟩;obtain⟨r4,hr⟩:∃r,decide (m.mem.may 16 65536)=r:=⟨_,rfl⟩;rw [hr];have R4:=V hr;have HX:=V (HX.out.below hb HX.out.lt);have HS:=V (HS.out.trans (hb.mono HS.out.size));clear hr hb;clear g0 g1 g2 g3 g4 g5 g6 g7 g8 g9 L8 Mb Mc Md;obtain⟨g0,g1,g2,g3,g4,g5,g6,g7,g8,g9,L8,Mb,Mc,Md⟩:=HX.out.mod;cases r4
 ·skip
  go_wp2;go_ret;exact⟨by rw [kT,HQ.out,R1.out,R2.out,R3.out,R4.out];rfl,HS.out⟩
 have hmay1:m.vD:=by
  have h1:=cD R1.out;exact⟨⟨cD HQ.out,by have:=h1.1;omega,h1.2⟩,cD R2.out,cD R3.out,cD R4.out⟩
 go_wp2_with fail;refine(sA m ⟨.slice a0 m.types.length c0, .slice a1 m.imports.length c1, .slice a2 m.funcs.length c2, .slice a3 m.globals.length c3, .slice a4 m.dY.length c4, .slice a5 m.elems.length c5, .slice a6 m.eh.length c6, .slice a7 m.eA.length c7⟩ w4 (eo.below HI.out HS.out) hmay1).mono ?_;rintro x w5 ⟨v,rfl,hv,hb⟩;obtain⟨av,cv,rfl,-,-,-⟩:=hv;have HS:=V (HS.out.trans (hb.mono HS.out.size));clear hb hmay1;clear g0 g1 g2 g3 g4 g5 g6 g7 g8 g9 L8 Mb Mc Md;obtain⟨n,hn⟩:∃n,(fA m).length=n:=⟨_,rfl⟩;rw [hn];have HN:=V hn;clear hn;by_cases q:n <=8000
 ·have f3:decide ((n:Int) <=8000)=true:=ay (by omega)
  have f4:decide (n <=8000)=true:=ay q;have HR:=V (show decide ((fA m).length <=8000)=true by rw [HN.out];exact f4);clear q;go_wp2;go_ret;exact⟨by rw [kT,HQ.out,R1.out,R2.out,R3.out,R4.out,HR.out];rfl,HS.out⟩
 ·have f3:decide ((n:Int) <=8000)=false:=aw (by omega)
  have f4:decide (n <=8000)=false:=aw q;have HR:=V (show decide ((fA m).length <=8000)=false by rw [HN.out];exact f4);clear q;go_wp2;go_ret;exact⟨by rw [kT,HQ.out,R1.out,R2.out,R3.out,R4.out,HR.out];rfl,HS.out⟩
def I9 (m:eu) (w:World) (e:Ending) (w':World):Prop:=∃v,e= .returned v/\((¬ m.may/\v= .slice none 0 0)\/(m.may/\eG w' v (fA m)))/\Below w.heap.size w w'
theorem nQ (m:eu) (u:eE) (w:World) (hm:eo w u m) (hs:m.words):Calls prog 81 #[.agg (u.cells m)] w (I9 m w):=by
 have HI:=V hm;have Q7:=V hs;obtain⟨a0,c0,a1,c1,a2,c2,a3,c3,a4,c4,a5,c5,a6,c6,a7,c7,rfl⟩:=eo.open hm;clear hm hs;simp only [eE.cells];have HX:=V (eD.new w #[.slice a0 m.types.length c0, .slice a1 m.imports.length c1, .slice a2 m.funcs.length c2, .bool m.table.has, .int .i64 m.table.min, .int .i64 m.table.max, .bool m.mem.has, .int .i64 m.mem.min, .int .i64 m.mem.max, .slice a3 m.globals.length c3, .slice a4 m.dY.length c4, .slice a5 m.elems.length c5, .slice a6 m.eh.length c6, .slice a7 m.eA.length c7] 35);have HS:=V ((an w.heap.size w).alloc (ag _) (.cells #[.slice a0 m.types.length c0, .slice a1 m.imports.length c1, .slice a2 m.funcs.length c2, .bool m.table.has, .int .i64 m.table.min, .int .i64 m.table.max, .bool m.mem.has, .int .i64 m.mem.min, .int .i64 m.mem.max, .slice a3 m.globals.length c3, .slice a4 m.dY.length c4, .slice a5 m.elems.length c5, .slice a6 m.eh.length c6, .slice a7 m.eA.length c7] 35));go_enter func81,ntmps81;go_wp2_with fail;refine(sW m ⟨.slice a0 m.types.length c0, .slice a1 m.imports.length c1, .slice a2 m.funcs.length c2, .slice a3 m.globals.length c3, .slice a4 m.dY.length c4, .slice a5 m.elems.length c5, .slice a6 m.eh.length c6, .slice a7 m.eA.length c7⟩ _ (eo.below HI.out HS.out) Q7.out).mono ?_;rintro x w1 ⟨rfl,hb⟩;obtain⟨r1,hr⟩:∃r,decide m.may=r:=⟨_,rfl⟩;rw [hr];have R1:=V hr;have HX:=V (HX.out.below hb HX.out.lt);have HS:=V (HS.out.trans (hb.mono HS.out.size));clear hr hb;obtain⟨g0,g1,g2,g3,g4,g5,g6,g7,g8,g9,L8,Mb,Mc,Md⟩:=HX.out.mod;cases r1
 ·go_wp2
  go_ret;exact⟨_,rfl, .inl ⟨of_decide_eq_false R1.out,rfl⟩,HS.out⟩
 go_wp2_with fail;refine(sA m ⟨.slice a0 m.types.length c0, .slice a1 m.imports.length c1, .slice a2 m.funcs.length c2, .slice a3 m.globals.length c3, .slice a4 m.dY.length c4, .slice a5 m.elems.length c5, .slice a6 m.eh.length c6, .slice a7 m.eA.length c7⟩ w1 (eo.below HI.out HS.out) (cD R1.out).1).mono ?_;rintro x w2 ⟨v,rfl,hv,hb⟩;have HV:=V hv;have HS:=V (HS.out.trans (hb.mono HS.out.size));clear hb hv;clear g0 g1 g2 g3 g4 g5 g6 g7 g8 g9 L8 Mb Mc Md;go_wp2;go_ret;exact⟨_,rfl, .inr ⟨cD R1.out,HV.out⟩,HS.out⟩
theorem Fb (a:Nat) (ha:a < 18446744073709551616):bits .and .u64 (a:Int) 4294967295=((a %4294967296:Nat):Int):=by
 have h:=bits_and_u64_nat a 4294967295 ha (by omega);have e:a&&&4294967295=a %4294967296:=Nat.and_two_pow_sub_one_eq_mod a 32;rw [e]at h;exact h
theorem K9 (a:Nat):(a:Int)/4294967296=((a/4294967296:Nat):Int):=by omega
theorem Lf (a b:Nat):(a:Int)*(b:Int)=((a*b:Nat):Int):=(Int.natCast_mul a b).symm
theorem K7 (a b:Nat):(a:Int)+(b:Int)=((a+b:Nat):Int):=(Int.natCast_add a b).symm
theorem sv (a:Nat) (ha:a < 18446744073709551616):IntKind.u64.wrap (a:Int)=(a:Int):=by rw [IntKind.wrap_u64];omega
theorem Kv (a:Nat):IntKind.u64.wrap (a:Int)=((a %18446744073709551616:Nat):Int):=by rw [IntKind.wrap_u64];omega
def E3 (x y:Nat) (w:World) (e:Ending) (w':World):Prop:=e= .returned (.tuple #[.int .u64 ((x*y/18446744073709551616:Nat):Int), .int .u64 ((x*y %18446744073709551616:Nat):Int)])/\w'=w
theorem Dk (x y:Nat) (hx:x < 18446744073709551616) (hy:y < 18446744073709551616) (w:World):Calls prog 224 #[.int .u64 x, .int .u64 y] w (E3 x y w):=by
 obtain⟨bd,bt,bw,hhi⟩:=Lib.mul64_hi x y hx hy;have ba:=Lib.half_mul_le (a:=x/4294967296) (b:=y/4294967296) (by omega) (by omega);have bb:=Lib.half_mul_le (a:=x/4294967296) (b:=y %4294967296) (by omega) (by omega);have bc:=Lib.half_mul_le (a:=x %4294967296) (b:=y/4294967296) (by omega) (by omega);have ba':x/4294967296*(y/4294967296) < 18446744073709551616:=by omega
 have bb':x/4294967296*(y %4294967296) < 18446744073709551616:=by omega
 have bc':x %4294967296*(y/4294967296) < 18446744073709551616:=by omega
 have bh1:x/4294967296*(y/4294967296)+(x/4294967296*(y %4294967296)+x %4294967296*(y %4294967296)/4294967296)/4294967296 < 18446744073709551616:=by omega
 have bh:x/4294967296*(y/4294967296)+(x/4294967296*(y %4294967296)+x %4294967296*(y %4294967296)/4294967296)/4294967296+((x/4294967296*(y %4294967296)+x %4294967296*(y %4294967296)/4294967296) %4294967296+x %4294967296*(y/4294967296))/4294967296 < 18446744073709551616:=by omega
 go_enter func224,ntmps224;go_wp2;simp only [Fb x hx,Fb y hy,K9,Lf,K7,sv _ bd,sv _ bb',sv _ bt,Fb _ bt,sv _ bc',sv _ bw,sv _ ba',sv _ bh1,sv _ bh,Kv (x*y)];rw [hhi]
 go_ret2
 exact⟨rfl,rfl⟩
theorem IS (x y:Nat) (hx:x < 18446744073709551616) (hy:y < 18446744073709551616) (w:World):Calls prog 125 #[.int .u64 x, .int .u64 y] w (E3 x y w):=by
 go_enter func125,ntmps125;go_wp2_with fail;refine(Dk x y hx hy w).mono ?_;rintro e w' ⟨rfl,rfl⟩;go_wp2
 go_ret2
 exact⟨rfl,rfl⟩
theorem nk (a:Option Addr) (len cap k:Nat) (h:k <=cap) (wx:World):
  (Instr.slice 26 (.slice a len cap) none (some (.int .i64 k)) none).run prog wx= .ok (.slice a k cap) wx:=by
 have hu:prog.underlying 26=some (.slice 3):=by kernel_rfl
 obtain⟨i0,hi,NM,ME,Nd⟩:=bV jA;simp [Instr.slice,bj hu,Instr.sliceBounds,Instr.sliceBound,sizeOf,typeInfo,hi,asIntOf,h];cases a <;>simp [Addr.add]
theorem jX (g len cap k:Nat) (h:k < len) (h2:len <=cap) (wx:World):
  (Instr.slice 26 (.slice (some ⟨g,0,none⟩) len cap) (some (.int .i64 k)) none none).run prog wx= .ok (.slice (some ⟨g,k,none⟩) (len - k) (cap - k)) wx:=by
 have hu:prog.underlying 26=some (.slice 3):=by kernel_rfl
 obtain⟨i0,hi,NM,ME,Nd⟩:=bV jA;have h3:k <=cap:=by omega
 have h4:¬ cap=k:=by omega
 have h5:k <=len:=by omega
 have h6:¬ k=cap:=by omega
 simp [Instr.slice,bj hu,Instr.sliceBounds,Instr.sliceBound,sizeOf,typeInfo,hi,ME,asIntOf,h4,h5,Addr.add];intro h0;exact h0.symm
theorem Dt (K:Nat) (hK:K <=2000) (w:World):(Instr.makeSlice 26 (.int .i64 (K:Int)) (.int .i64 (K:Int))).run prog w=
  .ok (.slice (some ⟨w.heap.size,0,none⟩) K K) (w.alloc (.cells (List.replicate K (.int .i64 0)).toArray 3)):=by
 obtain⟨i,hi,NM,ME,Nd⟩:=bV jA;have h:=run_make (P:=prog) w 26 3 i _ (by kernel_rfl) hi NM .i64 .i64 (K:Int) (K:Int) (by omega) (Int.le_refl _) (by rw [Nd];omega) (by omega);rw [ME,cE,aY]at h;have e:madeCells (Value.cells (.int .i64 0)) K=(List.replicate K (.int .i64 0)).toArray:=by
  apply Array.ext
  ·simp [madeCells]
  ·intro i h1 h2
   have:i %1=0:=Nat.mod_one i;simp [madeCells,Value.cells,this]
 rw [e]at h;exact h
def jZ (k:Int) (n m:Nat):List Value:=List.replicate m (.int .i64 k)++List.replicate (n - m) (.int .i64 0)
theorem pW (k:Int) (n m c:Nat) (hc:m+c <=n):splice (jZ k n m) m (List.replicate c (.int .i64 k))=jZ k n (m+c):=by
 unfold splice jZ;rw [List.take_append_of_le_length (by simp),dd (by simp),bp,List.drop_append,List.drop_of_length_le (by simp),cg,bp,List.drop_replicate, <- aK,List.replicate_append_replicate]
 congr 2
 omega
theorem tQ (k:Int) (n m:Nat) (hm:m <=n):(jZ k n m).length=n:=by simp [jZ];omega
def KN (k:Int) (n g:Nat) (w w':World) (m:Nat):Prop:=m <=n/\(m=0 ->n=0)/\w'.heap[g]?=some (.cells (jZ k n m).toArray 3)/\Below w.heap.size w w'
def JC (k:Int) (n:Nat) (w:World) (e:Ending) (w':World):Prop:=∃g,e= .returned (.slice (some ⟨g,0,none⟩) n n)/\dS 3 1 eU w' w.heap.size (.slice (some ⟨g,0,none⟩) n n) (List.replicate n k)/\Below w.heap.size w w'
theorem Cy (k:Int) (c:Nat):∀v∈List.replicate c (Value.int .i64 k),v.oneCell'=true:=by
 intro v hv;obtain⟨_,rfl⟩:=dM.1 hv;rfl
theorem Fj (k:Int) (n:Nat):(List.replicate n k).flatMap eU=List.replicate n (Value.int .i64 k):=by
 induction n with
 | zero=>rfl
 | succ n ih=>rw [List.replicate_succ,bL,ih,List.replicate_succ];rfl
theorem qo (a:Option Addr) (cap:Nat) (k:Int) (n:Nat) (hn:n <=1000) (w:World) (hl:ee 1 eU w (.slice a 1 cap) [k]):Calls prog 82 #[.slice a 1 cap, .int .i64 n] w (JC k n w):=by
 obtain⟨_,_,hv,N3,MF,Lt⟩:=hl;obtain⟨b,off,rfl,LD,hc⟩:∃b off,a=some ⟨b,off,none⟩/\b < w.heap.size/\w.cell? ⟨b,off,none⟩=some (.int .i64 k):=by
  injection hv with e1 e2 e3;subst e1;obtain⟨b,off,ha,LD,hc⟩:=Lt 0 k rfl;exact⟨b,off,ha,LD,by have:=hc 0 _ rfl;simpa using this⟩
 have hmk:=fun w=>Dt n (by omega) w;have hmul1:(1*n/18446744073709551616:Nat)=0:=by omega
 have hmul2:(1*n %18446744073709551616:Nat)=n:=by omega
 have HLT:=V LD;have HC:=V hc;clear hv N3 MF Lt hc;go_enter func82,ntmps82;go_wp2_with fail;refine(IS 1 n (by omega) (by omega) w).mono ?_;rintro e w1 ⟨rfl,rfl⟩;rw [hmul1,hmul2];clear hmul1 hmul2;obtain⟨g,hg⟩:∃g,g=w1.heap.size:=⟨_,rfl⟩;have HG1:=V (dt hg);have HG2:=V (dt hg.symm);go_wp2_with (first | (refine wpList_copy_splice rfl (.tmp 31) (.tmp 32) 26 26 rfl 3 (by kernel_rfl) (by kernel_rfl) (some ⟨w1.heap.size,0,none⟩) (some ⟨b,off,none⟩) n n 1 cap rfl rfl w1.heap.size 0 (jZ k n 0) 3 (by rw [show jZ k n 0=List.replicate n (.int .i64 0)by simp [jZ]];exact eD.new w1 _ _) (List.replicate (min 1 n) (.int .i64 k)) (by simp) ?_ (by rw [tQ _ _ _ (by omega)];simp;omega) (Cy _ _) w1.heap.size w1 ((an _ _).alloc (ag _) _) (ag _) ?_))
 ·intro _ j v hv
  have hj:=(aG.1 hv).1;have MK:=aN hv;obtain⟨_,rfl⟩:=dM.1 MK;simp only [bp]at hj;obtain rfl:j=0:=by omega
  exact HC.out
 intro w2 MC hb;rw [<- hg]at MC;have Q8:=V (show w2.heap[g]?=some (.cells (jZ k n (min 1 n)).toArray 3)by
  have h1:=MC.out;rw [pW k n 0 (min 1 n) (by omega)]at h1;simpa using h1)
 have HB:=V hb;have hgg:(some ⟨w1.heap.size,0,none⟩:Option Addr)=some ⟨g,0,none⟩:=by rw [hg]
 rw [hgg];clear MC hb hmk hgg hg;go_wp2_with fail;refine eC (fun a' w'=>∃(m:Nat),a'=fr (gs a' 0 7 (.slice (some ⟨g,0,none⟩) n n:: .int .i64 m::gs a' 9 39 []))/\KN k n g w1 w' m) (fun a' _=>(n - (intOf (a'.tmps.getD 8 undef)).toNat)) ?_ ?_
 ·exact⟨min 1 n,rfl,by omega,by omega,Q8.out,HB.out⟩
 ·skip
  rintro R a' w1 ⟨m,Lv,hJ⟩ HR;dsimp only [fr,gs]at Lv;generalize slot a'=f at Lv;subst Lv;obtain⟨hm,hz,MC,hb⟩:=hJ;have Q8:=V MC;have HB:=V hb;have HZ:=V hz;by_cases q:m < n;rotate_left
  ·obtain rfl:m=n:=by omega
   clear MC hb hz;go_wp2;go_ret;refine⟨g,rfl,⟨by rw [jH fm], .inr ⟨g,m,_,by rw [bp],HG2.out,Q8.out,by simp,by simp only [maxLen];omega,by simp [jZ],?_⟩⟩,HB.out⟩;rw [Fj];simp [jZ]
  have MQ:=fun wx=>jX g n n m q (ag _) wx;have LL:=fun wx=>nk (some ⟨g,0,none⟩) n n m (by omega) wx;obtain⟨c,hc⟩:∃c,c=min m (n - m):=⟨_,rfl⟩;have HC:=V hc;clear hb hz hc;go_wp2_with fail;refine ea (fun _=>True) (up 0 7 ((7,false)::(8,true)::(9,true)::[])) (by kernel_rfl) (by kernel_rfl) trivial ?_;iterate 7 (first | (apply sk rfl rfl;simp only [pt]) | (apply dV rfl rfl rfl;·(rintro w' t0;go_wp2;exact⟨rfl,rfl,rfl⟩)))
  refine dZ rfl rfl ?_;go_wp2_with (first | (refine wpList_copy_splice rfl (.tmp 41) (.tmp 44) 26 26 rfl 3 (by kernel_rfl) (by kernel_rfl) (some ⟨g,m,none⟩) (some ⟨g,0,none⟩) (n - m) (n - m) m n rfl rfl g m (jZ k n m) 3 MC (List.replicate c (.int .i64 k)) (by rw [bp];exact HC.out) ?_ (by rw [tQ _ _ _ hm,bp,HC.out];omega) (Cy _ _) g w1 (an g w1).drew (ag _) ?_))
  ·intro _ j v hv
   have hj:=(aG.1 hv).1;have MK:=aN hv;obtain⟨_,rfl⟩:=dM.1 MK;simp only [bp]at hj;have LM:=HC.out;have h3:=cell_of_row w1 g j _ _ _ MC;rw [h3];unfold jZ;rw [aM,bE (by rw [bp];omega),List.getElem?_replicate,aD (by omega)]
  intro w2 Qv Lw;have HROW2:=V (show w2.heap[g]?=some (.cells (jZ k n (m+c)).toArray 3)by
   have h1:=Qv.out;rw [pW k n m c (by have:=HC.out;omega)]at h1;exact h1)
  have LY:=V (HB.out.trans (Lw.mono HG2.out));clear MC Qv Lw;have hcn:c <=n:=by have:=HC.out;omega
  have N3:1 <=c:=by have:=HC.out;have:=HZ.out;omega
  go_wp2;refine⟨trivial,?_⟩;iterate 2 (first | (apply sk rfl rfl;simp only [pt]) | (apply dV rfl rfl rfl;·(rintro w' t0;go_wp2;exact⟨rfl,rfl,rfl⟩)))
  refine eF ?_;refine aA ?_;go_wp2;refine HR.out _ _ ⟨m+c,?_,by have:=HC.out;omega,by omega,HROW2.out,LY.out⟩ ?_
  ·rfl
  ·simp [intOf]
   omega
def rZ (C:Nat) (w:World):World:=mask (fun k=>k==C) w
theorem pM {C:Nat} {w w':World} (h:dU (fun i=>i=C) w w'):Ext (rZ C w) (rZ C w'):=iC h (fun _ _ hk=>by simp [hk]) (fun _ _ hk=>hk)
theorem xq {C:Nat} {w w':World} (h:Below w.heap.size w w'):Ext (rZ C w) (rZ C w'):=iC (dU.dW (S:=fun _=>False) h) (fun _ _ hk=>hk.elim) (fun _ _ hk=>hk)
theorem tk {C:Nat} {w w':World} (h:dU (fun i=>i=C) w w'):Ext (rZ C w) w':=sc h (fun _ _ hk=>by simp [hk])
theorem yQ (C:Nat) (w:World):Ext (rZ C w) w:=tk (dU.refl _ _)
theorem CK {α:Type} {t:TypeId} {k:Nat} {enc:α ->List Value} (hk:∀x,(enc x).length=k) {w:World} {B C:Nat} {v:Value} {l:List α} (h:dS t k enc w B v l) (hB:C < B):ee k enc (rZ C w) v l:=
 (dS.mask h (fun b hb=>by
  have:b≠C:=by omega
  simp [this])).fH hk
theorem lQ {P:Program} (w:World) {ops:Array Oper} {rest:List Oper} {o:Oper} {a:Act} {Q:Exit ->Act ->World ->Prop} (OP:o.guard=none) (s x:Operand)
  (hP:P=prog) (ho:o.op= .call {callee:= .builtin .append,args:=#[s,x],argTypes:=#[26,26]})
  (B:Nat) (v:Value) (l:List Int) (hs:a.eval s=v) (Lu:dS 3 1 eU w B v l)
  (b:Value) (m:List Int) (hx:a.eval x=b) (hm:ee 1 eU w b m)
  (OU:l.length+m.length <=1000000) (LW:B <=w.heap.size)
  (h:∀v' w',dS 3 1 eU w' B v' (l++m) ->dU (ez v) w w' ->eB w v v' ->wpList P ops Q rest (a.put o.dst v') w'):wpList P ops Q (o::rest) a w:=by
 subst hP;cases m with
 | cons y m=>
  have hm':=hm;obtain⟨ad,cap,rfl,N3,MF,hc3⟩:=hm';obtain⟨b,off,rfl,_⟩:=hc3 0 y rfl;exact kl w OP s x 26 ho _ 8 (by kernel_rfl) jA rfl (by decide) (by decide) B v l hs Lu fm (y::m) ⟨b,off,none⟩ (y::m).length cap hx hm (fun z _=>CH z) OU LW h
 | nil=>
  obtain⟨i0,hi,NM,ME,Nd⟩:=bV jA;obtain⟨ad,cap,rfl,N3,MF,hc3⟩:=hm;have key:∃v' w',(Builtin.append_ #[26,26] o.type #[v, .slice ad 0 cap]).run prog w= .ok v' w'/\dS 3 1 eU w' B v' (l++[])/\dU (ez v) w w'/\eB w v v':=by
   cases ad with
   | some ad=>
    obtain⟨v',w',h1,h2,h3,h4⟩:=tl (P:=prog) w B 26 o.type 3 i0 (.int .i64 0) 1 8 (by kernel_rfl) hi NM ME Nd rfl (by decide) v l.length (l.flatMap eU) Lu ad 0 cap [] rfl (by simp) (by simp) (by simp only [aL]at OU;simp only [maxLen];omega) (by simp only [aL]at OU;omega) LW;exact⟨v',w',h1,by simpa [dS] using h2,h3,h4⟩
   | none=>
    have ht:prog.underlying 26=some (.slice 3):=by kernel_rfl
    rcases Lu.2 with⟨rfl,h0⟩ | ⟨g,LQ,cur,rfl,hb,hg,hn,hm,hs,O2⟩
    ·refine⟨.slice none 0 0,w,?_,by simpa using Lu,dU.refl _ _,eB.refl _ _⟩
     simp [Builtin.append_,bj ht,sizeOf,typeInfo,hi,Builtin.lenOf,Builtin.firstCells]
    ·refine⟨.slice (some ⟨g,0,none⟩) l.length LQ,w,?_,by simpa using Lu,dU.refl _ _,eB.refl _ _⟩
     simp [Builtin.append_,bj ht,sizeOf,typeInfo,hi,Builtin.lenOf,Builtin.firstCells,hn];simp [storeCells]
  obtain⟨v',w',hr,h2,h3,h4⟩:=key;refine dK OP fun _ hK=>?_;unfold Oper.wp execOp;simp only [ho,resolve,invoke,builtin,cG,bX,cz,dr,bF,cT,hs,hx,hr,aL];exact hK _ _ (h v' w' h2 h3 h4)
def s8 (u:eE) (m:eu) (lv v v':Value) (bad:Bool):Array Value:=
 #[u.types,u.imports,u.funcs, .bool m.table.has, .int .i64 m.table.min, .int .i64 m.table.max, .bool m.mem.has, .int .i64 m.mem.min, .int .i64 m.mem.max,u.globals,u.dY,u.elems,u.eh,u.eA,lv,v,v', .bool bad]
def fU (w1:World) (C:Nat) (u:eE) (m:eu) (lv:Value) (w:World) (c:eH):Prop:=
 ∃v v',eD w C (s8 u m lv v v' c.bad) 186/\dS 3 1 eU w w1.heap.size v c.dX/\dS 191 4 xV w w1.heap.size v' c.eM/\dU (fun i=>i=C) w1 w/\C < w1.heap.size
theorem fU.below {w1 w w':World} {C:Nat} {u:eE} {m:eu} {lv:Value} {c:eH} (h:fU w1 C u m lv w c) (hb:Below w.heap.size w w'):fU w1 C u m lv w' c:=by
 obtain⟨v,v',h1,h2,h3,h4,h5⟩:=h;exact⟨v,v',h1.below hb h1.lt,h2.below hb,h3.below hb,h4.trans (dU.dW (S:=fun _=>False) hb) (fun _ h=>h.elim),h5⟩
theorem fU.drew {w1 w:World} {C:Nat} {u:eE} {m:eu} {lv:Value} {c:eH} (h:fU w1 C u m lv w c):fU w1 C u m lv w.drew c:=by
 obtain⟨v,v',h1,h2,h3,h4,h5⟩:=h;exact⟨v,v',h1.drew,h2,h3,h4.drew,h5⟩
theorem fU.alloc {w1 w:World} {C:Nat} {u:eE} {m:eu} {lv:Value} {c:eH} (h:fU w1 C u m lv w c) (o:Obj):fU w1 C u m lv (w.alloc o) c:=h.below ((an _ _).alloc (ag _) o)
theorem fU.lt {w1 w:World} {C:Nat} {u:eE} {m:eu} {lv:Value} {c:eH} (h:fU w1 C u m lv w c):C < w.heap.size/\C < w1.heap.size/\w1.heap.size <=w.heap.size:=by
 obtain⟨v,v',h1,h2,h3,h4,h5⟩:=h;exact⟨h1.lt,h5,h4.size⟩
theorem fU.old {w1 w:World} {C:Nat} {u:eE} {m:eu} {lv:Value} {c:eH} (h:fU w1 C u m lv w c):dU (fun i=>i=C) w1 w:=by
 obtain⟨v,v',h1,h2,h3,h4,h5⟩:=h;exact h4
def CE (w1:World) (C:Nat) (u:eE) (m:eu) (lv:Value) (val:Value) (c:eH) (w:World) (e:Ending) (w':World):Prop:=e= .returned val/\fU w1 C u m lv w' c/\dU (fun i=>i=C) w w'/\w'.cell? ⟨C,16,none⟩=w.cell? ⟨C,16,none⟩
def nj (w1:World) (C:Nat) (u:eE) (m:eu) (lv:Value) (val:Value) (c:eH) (e:Ending) (w':World):Prop:=e= .returned val/\fU w1 C u m lv w' c
theorem jw (w1:World) (C:Nat) (u:eE) (m:eu) (lv:Value) (w:World) (c:eH) (ok:Bool) (h:fU w1 C u m lv w c):
  Calls prog 192 #[.pointer (some ⟨C,0,none⟩), .bool ok] w (CE w1 C u m lv (.tuple #[]) (c.need ok) w):=by
 obtain⟨dX,eM,bad⟩:=c;obtain⟨v,v',hb,hv,hc,hk,hC⟩:=h;have c17:w.cell? ⟨C,17,none⟩=some (.bool bad):=hb.cell 17;have z17:=hb.free 17;have HB:=V hb;clear hb;simp only at hv hc;cases bad <;>cases ok
 ·skip
  go_enter func192,ntmps192;go_wp2
  go_end0
  exact⟨rfl,⟨v,v',HB.out.set 17 _,hv.keeps (ei w C 17 _) (fun i hi h=>by have:=(ey hv hi).1;omega),hc.keeps (ei w C 17 _) (fun i hi h=>by have:=(ey hc hi).1;omega),hk.trans (ei w C 17 _) (fun i hi=> .inl hi),hC⟩,ei w C 17 _,ct _ _ _ _ (by simp)⟩
 ·skip
  go_enter func192,ntmps192;go_wp2
  go_end0
  exact⟨rfl,⟨v,v',HB.out.set 17 _,hv.keeps (ei w C 17 _) (fun i hi h=>by have:=(ey hv hi).1;omega),hc.keeps (ei w C 17 _) (fun i hi h=>by have:=(ey hc hi).1;omega),hk.trans (ei w C 17 _) (fun i hi=> .inl hi),hC⟩,ei w C 17 _,ct _ _ _ _ (by simp)⟩
 ·skip
  go_enter func192,ntmps192;go_wp2
  go_end0
  exact⟨rfl,⟨v,v',HB.out.set 17 _,hv.keeps (ei w C 17 _) (fun i hi h=>by have:=(ey hv hi).1;omega),hc.keeps (ei w C 17 _) (fun i hi h=>by have:=(ey hc hi).1;omega),hk.trans (ei w C 17 _) (fun i hi=> .inl hi),hC⟩,ei w C 17 _,ct _ _ _ _ (by simp)⟩
 ·skip
  go_enter func192,ntmps192;go_wp2
  go_end0
  exact⟨rfl,⟨v,v',HB.out.set 17 _,hv.keeps (ei w C 17 _) (fun i hi h=>by have:=(ey hv hi).1;omega),hc.keeps (ei w C 17 _) (fun i hi h=>by have:=(ey hc hi).1;omega),hk.trans (ei w C 17 _) (fun i hi=> .inl hi),hC⟩,ei w C 17 _,ct _ _ _ _ (by simp)⟩
def I1 (C:Nat) (k:Int) (w:World) (e:Ending) (w':World):Prop:=∃v,e= .returned v/\ee 1 eU (rZ C w') v (gx k)/\Below w.heap.size w w'
theorem mN (k:Int) (w:World) (C:Nat) (hC:C < w.heap.size):Calls prog 194 #[.int .i64 k] w (I1 C k w):=by
 by_cases q:k=0
 ·have f1:=eI q
  have HL:Hid (gx k=[]):=V (by simp [gx,q]);clear q;go_enter func194,ntmps194;go_wp2;go_ret;exact⟨_,rfl,by rw [HL.out];exact ee.nil _,an _ _⟩
 ·have f1:=dR q
  have HL:Hid (gx k=[k]):=V (by simp [gx,q]);clear q;go_enter func194,ntmps194;go_wp2;go_ret;refine⟨_,rfl,?_,(an _ _).alloc (ag _) _⟩;rw [HL.out];have hx:=eD.new w #[.int .i64 k] 3;refine CK fm (B:=w.heap.size) (t:=3) ⟨by simp [eU], .inr ⟨w.heap.size,1,_,rfl,ag _,hx,by simp,by simp [maxLen],by simp,by simp [eU]⟩⟩ hC
theorem lL (w1:World) (C:Nat) (u:eE) (m:eu) (lv:Value) (w:World) (c:eH) (kv:Value) (l:List Int) (h:fU w1 C u m lv w c) (hl:ee 1 eU (rZ C w) kv l) (hn:c.dX.length+l.length <=100000):
  Calls prog 193 #[.pointer (some ⟨C,0,none⟩),kv] w (nj w1 C u m lv (.tuple #[]) (c.push l)):=by
 obtain⟨dX,eM,bad⟩:=c;obtain⟨v,v',hb,hv,hc,hk,hC⟩:=h;simp only at hv hc hn hb;obtain⟨av,cv,rfl,-,-⟩:=hv.slice;have Oz:w.cell? ⟨C,15,none⟩=some (.slice av dX.length cv):=hb.cell 15;have z15:=hb.free 15;have HB:=V hb;have HL:=V (hl.ext (yQ C w));have Mq:=hk.size;have HV:=V hv;have HC:=V hc;have HK:=V hk;have HNE:=V (fun g (hg:ez (.slice av dX.length cv) g)=>dS.ne hv hc (by decide) g hg);clear hb hl hv hc hk;obtain⟨ak,ck,rfl,-,-,-⟩:=id HL.out;go_enter func193,ntmps193;go_wp2_with (first | (at_builtin;refine lQ w rfl _ _ rfl rfl w1.heap.size _ dX rfl HV.out _ l rfl HL.out (by omega) Mq ?_));intro v2 w2 ho LH LL;obtain⟨a2,c2,rfl,-,-⟩:=ho.slice;have Lw:=HB.out.keeps LH (fun h=>by have:=(ey HV.out h).1;omega);have MF:=HC.out.keeps LH (fun i hi h=>HNE.out i h hi);have Mz:=HK.out.trans LH (fun i hi=> .inr (ey HV.out hi).1);have Oz:w2.cell? ⟨C,15,none⟩=some (.slice av dX.length cv):=Lw.cell 15;have z15:=Lw.free 15;have HB:=V Lw;have HC2:=V MF;have HK3:=V Mz;have HO:=V (show dS 3 1 eU w2 w1.heap.size (.slice a2 (dX.length+l.length) c2) (dX++l)by rw [<- ah];exact ho);clear Lw MF Mz ho LH LL;go_wp2
 go_end0
 exact⟨rfl,⟨_,v',HB.out.set 15 _,HO.out.keeps (ei _ C 15 _) (fun i hi h=>by have:=(ey HO.out hi).1;omega),HC2.out.keeps (ei _ C 15 _) (fun i hi h=>by have:=(ey HC2.out hi).1;omega),HK3.out.trans (ei _ C 15 _) (fun i hi=> .inl hi),hC⟩⟩
theorem qQ {α:Type} {l:List α} (h:l≠[]):∃cs t,l=cs++[t]:=⟨l.dropLast,l.getLast h,(db h).symm⟩
theorem mz (dX:List Int) (cs:List mJ) (t:mJ) (bad:Bool):eH.top ⟨dX,cs++[t],bad⟩=t:=by simp [eH.top]
def BM (C g n cap:Nat) (t:mJ) (w:World):Prop:=
 w.cell? ⟨C,16,none⟩=some (.slice (some ⟨g,0,none⟩) (n+1) cap)/\w.cell? ⟨g,n*4,none⟩=some (.int .i64 t.op)/\w.cell? ⟨g,n*4+1,none⟩=some (.int .i64 t.kind)/\w.cell? ⟨g,n*4+2,none⟩=some (.int .i64 t.eJ)/\w.cell? ⟨g,n*4+3,none⟩=some (.bool t.dead)
theorem BM.keeps {C g n cap:Nat} {t:mJ} {w w':World} {S:Nat ->Prop} (h:BM C g n cap t w) (hk:dU S w w') (h1:C < w.heap.size/\¬ S C) (h2:g < w.heap.size/\¬ S g):BM C g n cap t w':=by
 obtain⟨a,b,c,d,e⟩:=h;exact⟨(hk.cell h1.1 h1.2).trans a,(hk.cell h2.1 h2.2).trans b,(hk.cell h2.1 h2.2).trans c,(hk.cell h2.1 h2.2).trans d,(hk.cell h2.1 h2.2).trans e⟩
theorem BM.of {w:World} {B C:Nat} {v':Value} {cs:List mJ} {t:mJ} {xs:Array Value} {T:TypeId} (hb:eD w C xs T) (hx:xs[16]?=some v') (h:dS 191 4 xV w B v' (cs++[t])):
  ∃g cap,v'= .slice (some ⟨g,0,none⟩) (cs.length+1) cap/\cs.length+1 <=cap/\cap <=9223372036854775807/\B <=g/\g < w.heap.size/\BM C g cs.length cap t w:=by
 obtain⟨g,cap,cur,rfl,Pm,NC,hg3,L7,hm⟩:=h.open (by simp);have e:(cs++[t]).length=cs.length+1:=by simp
 rw [e]at h L7;refine⟨g,cap,by rw [e],L7,by simpa [maxLen] using hm,Pm,NC,?_,?_,?_,?_,?_⟩
 ·rw [hb.cell 16,hx,e]
 ·exact dS.cell jt h (i:=cs.length) (j:=0) (x:=t) (u:= .int .i64 t.op) (by simp) rfl
 ·exact dS.cell jt h (i:=cs.length) (j:=1) (x:=t) (u:= .int .i64 t.kind) (by simp) rfl
 ·exact dS.cell jt h (i:=cs.length) (j:=2) (x:=t) (u:= .int .i64 t.eJ) (by simp) rfl
 ·exact dS.cell jt h (i:=cs.length) (j:=3) (x:=t) (u:= .bool t.dead) (by simp) rfl
theorem DZ {w:World} {B:Nat} {v:Value} {vs:List Int} {k:Int} (h:dS 3 1 eU w B v (vs++[k])):
  ∃g cap,v= .slice (some ⟨g,0,none⟩) (vs.length+1) cap/\vs.length+1 <=cap/\cap <=9223372036854775807/\B <=g/\g < w.heap.size/\w.cell? ⟨g,vs.length,none⟩=some (.int .i64 k):=by
 obtain⟨g,cap,cur,rfl,Pm,NC,hg3,L7,hm⟩:=h.open (by simp);have e:(vs++[k]).length=vs.length+1:=by simp
 rw [e]at h L7;refine⟨g,cap,by rw [e],L7,by simpa [maxLen] using hm,Pm,NC,?_⟩;have:=dS.cell fm h (i:=vs.length) (j:=0) (x:=k) (u:= .int .i64 k) (by simp) rfl
 rwa [aY,aI]at this
def Ej (w:World) (t:mJ):World:=(w.alloc (.cells #[.int .i64 t.op, .int .i64 t.kind, .int .i64 t.eJ, .bool t.dead] 191)).drew
theorem qp (w:World) (t:mJ):Below w.heap.size w (Ej w t):=((an w.heap.size w).alloc (ag _) _).drew
theorem tH (w:World) (t:mJ):eD (Ej w t) w.heap.size #[.int .i64 t.op, .int .i64 t.kind, .int .i64 t.eJ, .bool t.dead] 191:=(eD.new w _ _).drew
theorem Cu (w1:World) (C:Nat) (u:eE) (m:eu) (lv:Value) (w:World) (c:eH) (want:Int) (h:fU w1 C u m lv w c) (hn:c.eM≠[]) (hs:c.top.eJ <=c.dX.length):
  Calls prog 191 #[.pointer (some ⟨C,0,none⟩), .int .i64 want] w (CE w1 C u m lv (.int .i64 (c.pop want).1) (c.pop want).2 w):=by
 have H:=V h;obtain⟨dX,eM,bad⟩:=c;obtain⟨cs,t,rfl⟩:=qQ hn;rw [mz]at hs;simp only at hs;obtain⟨v,v',hb,hv,hc,hk,hC⟩:=h;have hCl:=hb.lt;obtain⟨g,cap,rfl,L7,Nc,Pm,NC,NS⟩:=BM.of hb rfl hc;simp only at hv;have Mq:=hk.size;have Pa:=V NS;have HV:=V hv;have HB:=V hb;clear hb hc hk hn hv;go_enter func191,ntmps191;go_wp2_with fail;refine ea (BM C g cs.length cap t) (up 0 12 ((12,false)::(13,false)::[])) (by kernel_rfl) (by kernel_rfl) (NS.keeps (dU.refl (fun _=>False) w).drew ⟨hCl,fun h=>h⟩ ⟨NC,fun h=>h⟩) ?_;clear NS;iterate 12 (first | (apply sk rfl rfl;simp only [pt]) | (apply dV rfl rfl rfl;·(rintro w' ⟨t0,t1,t2,t3,t4⟩;go_wp2;exact⟨rfl,rfl,rfl⟩)))
 refine dZ rfl rfl ?_;go_wp2_with fail;refine⟨Pa.out.keeps ((dU.refl (fun _=>False) w).drew.alloc _) ⟨hCl,fun h=>h⟩ ⟨NC,fun h=>h⟩,?_⟩;refine dZ rfl rfl ?_;go_wp2_with fail;have LY:=V (qp w t);have HX:=V (tH w t);unfold Ej at LY HX;have HS:=V (H.out.below LY.out);have Pa:=V (Pa.out.keeps (dU.dW (S:=fun _=>False) LY.out) ⟨hCl,fun h=>h⟩ ⟨NC,fun h=>h⟩);have hK:dU (fun i=>i=C) w _:=dU.dW LY.out;have HK:=V hK;have HQ:Hid (_=w.cell? ⟨C,16,none⟩):=V (LY.out.cell hCl);refine⟨Pa.out,?_⟩;refine eF ?_;refine aA ?_;clear hK;generalize(w.alloc (.cells #[.int .i64 t.op, .int .i64 t.kind, .int .i64 t.eJ, .bool t.dead] 191)).drew=wb at HX HS Pa HK HQ⊢;clear LY;obtain⟨⟨x0,x1,x2,x3⟩,-,-,-,-⟩:=HX.out.four;by_cases q:dX.length=t.eJ
 ·have f1:((dX.length:Int)==(t.eJ:Int))=true:=eI (by omega)
  have f2:(dX.length==t.eJ)=true:=by simp [q]
  have HP:Hid (eH.pop ⟨dX,cs++[t],bad⟩ want=(want,eH.need ⟨dX,cs++[t],bad⟩ t.dead)):=V (by
   unfold eH.pop;rw [mz,aD q])
  obtain⟨v,v',hb,hv,-,-,-⟩:=HS.out;obtain⟨av,cv,rfl,-,-⟩:=hv.slice;have Oz:wb.cell? ⟨C,15,none⟩=some (.slice av dX.length cv):=hb.cell 15;clear hb hv q x0 x1 Pa;go_wp2_with fail;refine ea (fun w'=>w'.cell? ⟨C,15,none⟩=some (.slice av dX.length cv)/\w'.cell? ⟨w.heap.size,2,none⟩=some (.int .i64 t.eJ)) (up 0 8 []) (by kernel_rfl) (by kernel_rfl) ⟨Oz,x2⟩ ?_;iterate 8 (first | (apply sk rfl rfl;simp only [pt]) | (apply dV rfl rfl rfl;·(rintro w' ⟨t0,t1⟩;go_wp2;exact⟨rfl,rfl,rfl⟩)))
  refine eF ?_;refine aA ?_;have x3:wb.drew.cell? ⟨w.heap.size,3,none⟩=some (.bool t.dead):=x3;have HS:=V HS.out.drew;have HK:=V HK.out.drew;have HQ:=V (show wb.drew.cell? ⟨C,16,none⟩=w.cell? ⟨C,16,none⟩from HQ.out);generalize wb.drew=wc at HS HK HQ x3⊢;clear Oz x2;go_wp2_with fail;refine(jw w1 C u m lv wc _ t.dead HS.out).mono ?_;rintro e w2 ⟨rfl,LL,LH,RD⟩;have HS:=V LL;have HK:=V (HK.out.trans LH (fun _ h=> .inl h));have HQ:=V (RD.trans HQ.out);clear LL LH x3 RD;go_wp2;go_ret;rw [HP.out];exact⟨rfl,HS.out,HK.out,HQ.out⟩
 ·obtain⟨vs,k,rfl⟩:=qQ (l:=dX) (fun h=>by subst h;simp only [aL]at hs q;omega)
  have N6:(vs++[k]).length=vs.length+1:=by simp
  rw [N6]at q hs;have f1:((vs.length:Int)+1==(t.eJ:Int))=false:=dR (by omega);have f2:(vs.length+1==t.eJ)=false:=by simp [q]
  have HP:Hid (eH.pop ⟨vs++[k],cs++[t],bad⟩ want=if k=0 then(want,⟨vs,cs++[t],bad⟩)else(k,eH.need ⟨vs,cs++[t],bad⟩ (want==0 || k==want))):=V (by
   unfold eH.pop;rw [mz,N6,az q];simp)
  obtain⟨v,v',hb,hv,hc,hk,-⟩:=HS.out;simp only at hv hc;obtain⟨gv,LU,rfl,hcapv,hcmv,hgv1,hgv2,Mj⟩:=DZ hv;have Oz:wb.cell? ⟨C,15,none⟩=some (.slice (some ⟨gv,0,none⟩) (vs.length+1) LU):=hb.cell 15;have LK:=V hb;have OS:=V hv;have HCC:=V hc;have PV:=V hk;clear hb hv hc hk q x0 x1 x3 Pa H HV HB hs N6;go_wp2_with fail;refine ea (fun w'=>w'.cell? ⟨C,15,none⟩=some (.slice (some ⟨gv,0,none⟩) (vs.length+1) LU)/\w'.cell? ⟨w.heap.size,2,none⟩=some (.int .i64 t.eJ)) (up 0 8 []) (by kernel_rfl) (by kernel_rfl) ⟨Oz,x2⟩ ?_;iterate 8 (first | (apply sk rfl rfl;simp only [pt]) | (apply dV rfl rfl rfl;·(rintro w' ⟨t0,t1⟩;go_wp2;exact⟨rfl,rfl,rfl⟩)))
  refine eF ?_;refine aA ?_;have Oz:wb.drew.cell? ⟨C,15,none⟩=some (.slice (some ⟨gv,0,none⟩) (vs.length+1) LU):=Oz;have Mj:wb.drew.cell? ⟨gv,vs.length,none⟩=some (.int .i64 k):=Mj;clear x2 f1 f2;go_wp2_with fail;refine ea (fun w'=>w'.cell? ⟨C,15,none⟩=some (.slice (some ⟨gv,0,none⟩) (vs.length+1) LU)/\w'.cell? ⟨gv,vs.length,none⟩=some (.int .i64 k)) (up 0 13 []) (by kernel_rfl) (by kernel_rfl) ⟨Oz,Mj⟩ ?_;iterate 13 (first | (apply sk rfl rfl;simp only [pt]) | (apply dV rfl rfl rfl;·(rintro w' ⟨t0,t1⟩;go_wp2;exact⟨rfl,rfl,rfl⟩)))
  refine eF ?_;refine aA ?_;have Oz:wb.drew.drew.cell? ⟨C,15,none⟩=some (.slice (some ⟨gv,0,none⟩) (vs.length+1) LU):=Oz;clear Mj;have MQ:=fun wx=>nk (some ⟨gv,0,none⟩) (vs.length+1) LU vs.length (by omega) wx;go_wp2_with fail;refine eK (fun w'=>w'.cell? ⟨C,15,none⟩=some (.slice (some ⟨gv,0,none⟩) (vs.length+1) LU)) 14 (up 0 14 []) (by kernel_rfl) (by kernel_rfl) Oz ?_;iterate 14 (first | (apply sk rfl rfl;simp only [pt]) | (apply dV rfl rfl rfl;·(rintro w' t0;go_wp2;exact⟨rfl,rfl,rfl⟩)))
  refine fu rfl rfl ?_;have Oz:wb.drew.drew.drew.cell? ⟨C,15,none⟩=some (.slice (some ⟨gv,0,none⟩) (vs.length+1) LU):=Oz;have z15:wb.drew.drew.drew.frozen? ⟨C,15,none⟩=false:=LK.out.drew.drew.drew.free 15;have Lx:=ei wb C 15 (.slice (some ⟨gv,0,none⟩) vs.length LU);have hT:=dS.take fm OS.out vs.length (by simp);rw [dw rfl]at hT;have MM:Hid (fU w1 C u m lv (wb.setCell ⟨C,15,none⟩ (.slice (some ⟨gv,0,none⟩) vs.length LU)).drew.drew.drew ⟨vs,cs++[t],bad⟩):=V ((((show fU w1 C u m lv (wb.setCell ⟨C,15,none⟩ (.slice (some ⟨gv,0,none⟩) vs.length LU)) ⟨vs,cs++[t],bad⟩from
   ⟨_,v',LK.out.set 15 _,hT.keeps Lx (fun i hi h=>by have:=(ey hT hi).1;omega),HCC.out.keeps Lx (fun i hi h=>by have:=(ey HCC.out hi).1;omega),PV.out.trans Lx (fun _ h=> .inl h),hC⟩).drew).drew).drew)
  have Nv:=V ((HK.out.trans Lx (fun _ h=> .inl h)).drew.drew.drew);have HQ:=V (show(wb.setCell ⟨C,15,none⟩ (.slice (some ⟨gv,0,none⟩) vs.length LU)).drew.drew.drew.cell? ⟨C,16,none⟩=w.cell? ⟨C,16,none⟩from(ct wb _ _ _ (by simp)).trans HQ.out);clear Lx MQ hT;go_wp2;refine⟨trivial,?_⟩;refine aA ?_;generalize(wb.setCell ⟨C,15,none⟩ (.slice (some ⟨gv,0,none⟩) vs.length LU)).drew.drew.drew=wd at MM Nv HQ⊢;clear Oz z15;by_cases q0:k=0
  ·have f1:=eI q0
   have HP:=V (show eH.pop ⟨vs++[k],cs++[t],bad⟩ want=(want,⟨vs,cs++[t],bad⟩)by rw [HP.out,aD q0]);clear q0;go_wp2;go_ret;rw [HP.out];exact⟨rfl,MM.out,Nv.out,HQ.out⟩
  have f1:=dR q0;have HP:=V (show eH.pop ⟨vs++[k],cs++[t],bad⟩ want=(k,eH.need ⟨vs,cs++[t],bad⟩ (want==0 || k==want))by rw [HP.out,az q0]);clear q0;by_cases q1:want=0
  ·have f2:=eI q1
   have HP:=V (show eH.pop ⟨vs++[k],cs++[t],bad⟩ want=(k,eH.need ⟨vs,cs++[t],bad⟩ true)by rw [HP.out,f2,Bool.true_or]);clear q1;go_wp2_with fail;refine(jw w1 C u m lv wd _ true MM.out).mono ?_;rintro e w2 ⟨rfl,LL,LH,RD⟩;have HS:=V LL;have HK:=V (Nv.out.trans LH (fun _ h=> .inl h));have HQ:=V (RD.trans HQ.out);clear LL LH RD;go_wp2;go_ret;rw [HP.out];exact⟨rfl,HS.out,HK.out,HQ.out⟩
  have f2:=dR q1;clear q1;by_cases q2:k=want
  ·have f3:=eI q2
   have HP:=V (show eH.pop ⟨vs++[k],cs++[t],bad⟩ want=(k,eH.need ⟨vs,cs++[t],bad⟩ true)by rw [HP.out,f3,Bool.or_true]);clear q2;go_wp2_with fail;refine(jw w1 C u m lv wd _ true MM.out).mono ?_;rintro e w2 ⟨rfl,LL,LH,RD⟩;have HS:=V LL;have HK:=V (Nv.out.trans LH (fun _ h=> .inl h));have HQ:=V (RD.trans HQ.out);clear LL LH RD;go_wp2;go_ret;rw [HP.out];exact⟨rfl,HS.out,HK.out,HQ.out⟩
  ·have f3:=dR q2
   have HP:=V (show eH.pop ⟨vs++[k],cs++[t],bad⟩ want=(k,eH.need ⟨vs,cs++[t],bad⟩ false)by rw [HP.out,f2,f3];rfl);clear q2;go_wp2_with fail;refine(jw w1 C u m lv wd _ false MM.out).mono ?_;rintro e w2 ⟨rfl,LL,LH,RD⟩;have HS:=V LL;have HK:=V (Nv.out.trans LH (fun _ h=> .inl h));have HQ:=V (RD.trans HQ.out);clear LL LH RD;go_wp2;go_ret;rw [HP.out];exact⟨rfl,HS.out,HK.out,HQ.out⟩
theorem eH.C2 (c:eH) (k:Int):(c.pop k).2.dX.length <=c.dX.length:=by
 unfold eH.pop;split
 ·exact ag _
 ·split
  ·simp
  ·simp [eH.need]
theorem eH.vx:∀(l:List Int) (c:eH),(c.nt l).dX.length <=c.dX.length
 | [],_=>ag _
 | k::l,c=>aQ (eH.vx l _) (eH.C2 c k)
theorem eH.kV (c:eH) (l:List Int):(c.fL l).dX.length <=c.dX.length:=eH.vx _ _
def gN (c:eH):Prop:=c.sound/\c.eM≠[]
theorem gN.top {c:eH} (h:gN c):c.top.eJ <=c.dX.length:=h.1.top h.2
theorem gN.pop {c:eH} (h:gN c) (k:Int):gN (c.pop k).2:=⟨h.1.pop h.2 k,by rw [eH.pK];exact h.2⟩
theorem gN.fL {c:eH} (h:gN c) (l:List Int):gN (c.fL l):=⟨h.1.fL h.2 l,by rw [eH.ik];exact h.2⟩
theorem gN.need {c:eH} (h:gN c) (b:Bool):gN (c.need b):=⟨⟨h.1.1,h.1.2⟩,h.2⟩
theorem gN.push {c:eH} (h:gN c) (l:List Int):gN (c.push l):=⟨h.1.push l,h.2⟩
theorem gN.begin {c:eH} (h:gN c) (op kind:Int):gN (c.begin op kind):=⟨h.1.begin op kind,by simp [eH.begin]⟩
theorem gN.fail {c:eH} (h:gN c):gN {c with bad:=true}:=⟨⟨h.1.1,h.1.2⟩,h.2⟩
theorem gN.label {c:eH} (h:gN c) (n:Int):gN (c.label n).2:=by
 unfold eH.label;split
 ·exact h.fail
 ·exact h
theorem su (c:eH) (n:Int):(c.label n).2.eM=c.eM/\(c.label n).2.dX=c.dX:=by
 unfold eH.label;split <;>exact⟨rfl,rfl⟩
theorem Dc (c:eH) (n:Int):(c.label n).1.length <=1:=by
 unfold eH.label;split
 ·simp
 ·simp only
  split
  ·simp
  ·unfold gx;split <;>simp
theorem gN.local {c:eH} (h:gN c) (ls:List Int) (n:Int):gN (eH.local ls c n).2:=by
 unfold eH.local;split
 ·exact h.fail
 ·exact h
theorem pa (c:eH) (ls:List Int) (n:Int):(eH.local ls c n).2.eM=c.eM/\(eH.local ls c n).2.dX=c.dX:=by
 unfold eH.local;split <;>exact⟨rfl,rfl⟩
theorem qy (c:eH):c.shut.2.eM=c.eM.dropLast:=by
 unfold eH.shut eH.Cr;simp only [eH.mR,eH.ik]
theorem qY (c:eH):c.shut.2.dX.length <=c.dX.length:=eH.kV c _
theorem BD {c:eH} (h:gN c):c.shut.2.sound:=by
 have h1:=h.fL (gx c.top.kind);have ht:(c.fL (gx c.top.kind)).top=c.top:=by unfold eH.top;rw [eH.ik]
 have h2:=h1.top;rw [ht]at h2;have hle:=h.1.le_top h.2;refine⟨fun x hx=>?_,?_⟩
 ·rw [qy]at hx
  have:=hle x ((List.dropLast_sublist _).subset hx);exact aQ this h2
 ·rw [qy]
  exact h.1.2.sublist (List.dropLast_sublist _)
theorem Bp {c:eH} (h:c.eM≠[]):c.dead.eM.length=c.eM.length:=by
 have:=List.length_pos_iff.2 h;simp [eH.dead];omega
theorem Ei (c:eH):c.dead.dX.length <=c.dX.length:=by simp [eH.dead];omega
theorem gN.dead {c:eH} (h:gN c):gN c.dead:=by
 have hle:=h.1.le_top h.2;have ht:=h.top;obtain⟨cs,t,hcs⟩:∃cs t,c.eM=cs++[t]:=⟨c.eM.dropLast,c.eM.getLast h.2,(db h.2).symm⟩;have htop:c.top=t:=by unfold eH.top;rw [hcs];simp
 have hd:c.dead.eM=cs++[{t with dead:=true}]:=by unfold eH.dead;simp only [hcs,htop];simp
 have hv:c.dead.dX.length=t.eJ:=by simp [eH.dead,htop];rw [htop]at ht;omega
 rw [htop]at hle;refine⟨⟨fun x hx=>?_,?_⟩,by rw [hd];simp⟩
 ·rw [hv]
  rw [hd]at hx;rcases bT.1 hx with h1 | h1
  ·exact hle x (by rw [hcs];simp [h1])
  ·rw [aV.1 h1]
   exact ag _
 ·rw [hd]
  have hp:=h.1.2;rw [hcs,cV]at hp;rw [cV];exact⟨hp.1,by simp,fun a ha b hb=>by rw [aV.1 hb];exact hp.2.2 a ha t (by simp)⟩
def Li (w1:World) (C:Nat) (u:eE) (m:eu) (lv:Value) (c:eH) (l:List Int) (w w':World) (c':eH) (n:Nat):Prop:=
 n <=l.length/\c.fL l=c'.nt (l.take n).reverse/\fU w1 C u m lv w' c'/\gN c'/\dU (fun i=>i=C) w w'/\w'.cell? ⟨C,16,none⟩=w.cell? ⟨C,16,none⟩
theorem oE (w1:World) (C:Nat) (u:eE) (m:eu) (lv:Value) (w:World) (c:eH) (kv:Value) (l:List Int) (h:fU w1 C u m lv w c) (ho:gN c) (hl:ee 1 eU (rZ C w) kv l) (OV:l.length <=1000000):
  Calls prog 195 #[.pointer (some ⟨C,0,none⟩),kv] w (CE w1 C u m lv (.tuple #[]) (c.fL l) w):=by
 have HL:=V hl;obtain⟨ak,ck,rfl,-,-,-⟩:=id hl;clear hl;go_enter func195,ntmps195;go_wp2_with fail;refine eC (fun a' w'=>∃(c':eH) (n:Nat),a'=fr (.pointer (some ⟨C,0,none⟩):: .slice ak l.length ck::gs a' 2 2 (.int .i64 ((n:Int) - 1)::gs a' 5 13 []))/\Li w1 C u m lv c l w w' c' n) (fun a' _=>(intOf (a'.tmps.getD 4 undef)+1).toNat) ?_ ?_
 ·exact⟨c,l.length,rfl,ag _,by rw [aU];rfl,h,ho,dU.refl _ _,rfl⟩
 ·clear h ho
  rintro R a' w1 ⟨c',n,Lv,hJ⟩ HR;dsimp only [fr,gs]at Lv;generalize slot a'=f at Lv;subst Lv;obtain⟨hn,hpa,LS,LF,hk,hq⟩:=hJ;have HQ:=V hq;have HPA:=V hpa;have Lz:=V LS;have Mv:=V LF;have HK:=V hk;clear hpa LS LF hq;cases n with
  | zero=>
   have HP:=V (show c.fL l=c' by rw [HPA.out];rfl);clear hk;go_wp2
   go_end0
   rw [HP.out];exact⟨rfl,Lz.out,HK.out,HQ.out⟩
  | succ n=>
   obtain⟨x,hx⟩:∃x,l[n]?=some x:=⟨_,aq (by omega)⟩;have QV:=HL.out.ext (tk hk);obtain⟨_,_,hv,_,_,Lt⟩:=QV;injection hv with e1 e2 e3;subst e1;obtain⟨b,off,rfl,LD,hc⟩:=Lt n x hx;have c0:=hc 0 _ rfl;rw [aI,aY]at c0;have f1:decide ((0:Int) <=(n:Int))=true:=ay (by omega);have f2:(n:Int) < (l.length:Int):=by omega
   have HT:=V (show(l.take (n+1)).reverse=x::(l.take n).reverse by rw [aR,hx];simp);clear e2 e3 hc Lt hx hk;go_wp2_with fail;refine(Cu _ C u m lv _ c' x Lz.out Mv.out.2 Mv.out.top).mono ?_;rintro e w2 ⟨rfl,LL,LH,RD⟩;have HQ2:=V (RD.trans HQ.out);have MJ:=V LL;have Nv:=V (HK.out.trans LH (fun _ h=> .inl h));clear LL LH c0 RD;go_wp2;refine HR.out _ _ ⟨(c'.pop x).2,n,rfl,by omega,?_,MJ.out,Mv.out.pop x,Nv.out,HQ2.out⟩ ?_
   ·rw [HPA.out,HT.out]
    rfl
   ·simp [intOf]
theorem uq (w1:World) (C:Nat) (u:eE) (m:eu) (lv:Value) (w:World) (c:eH) (op kind:Int) (h:fU w1 C u m lv w c) (hn:c.eM.length <=100000):
  Calls prog 115 #[.pointer (some ⟨C,0,none⟩), .int .i64 op, .int .i64 kind] w (nj w1 C u m lv (.tuple #[]) (c.begin op kind)):=by
 obtain⟨v,v',hb,hv,hc,hk,hC⟩:=h.drew;obtain⟨dX,eM,bad⟩:=c;simp only at hb hv hc hn;obtain⟨av,cv,rfl,-,-⟩:=hv.slice;obtain⟨ac,cc,rfl,-,-⟩:=hc.slice;have Oz:w.drew.cell? ⟨C,15,none⟩=some (.slice av dX.length cv):=hb.cell 15;have Q9:w.drew.cell? ⟨C,16,none⟩=some (.slice ac eM.length cc):=hb.cell 16;have HB:=V hb;have HV:=V hv;have HC:=V hc;have HK:=V hk;have Mq:=hk.size;have HNE:=V (fun g (hg:ez (.slice av dX.length cv) g)=>dS.ne hv hc (by decide) g hg);clear hb hv hc hk h;go_enter func115,ntmps115;go_wp2_with fail;refine eK (fun w'=>w'.cell? ⟨C,15,none⟩=some (.slice av dX.length cv)/\w'.cell? ⟨C,16,none⟩=some (.slice ac eM.length cc)) 17 (up 0 13 ((13,false)::(14,false)::(15,true)::(16,true)::[])) (by kernel_rfl) (by kernel_rfl) ⟨Oz,Q9⟩ ?_;clear Oz Q9;generalize w.drew=wa at HB HV HC HK Mq⊢;iterate 13 (first | (apply sk rfl rfl;simp only [pt]) | (apply dV rfl rfl rfl;·(rintro w' ⟨t0,t1⟩;go_wp2;exact⟨rfl,rfl,rfl⟩)))
 refine dZ rfl rfl ?_;go_wp2_with fail;refine⟨⟨(HB.out.alloc _).cell 15,(HB.out.alloc _).cell 16⟩,?_⟩;refine dZ rfl rfl ?_;go_wp2_with (first | (at_builtin;refine fb wa rfl _ _ 184 rfl _ 32 (by kernel_rfl) vZ rfl (by decide) (by decide) w1.heap.size (.slice ac eM.length cc) eM rfl HC.out ⟨op,kind,dX.length,false⟩ _ rfl rfl (E5 _) rfl (by omega) Mq ?_));intro v2 w2 ho LH LL;obtain⟨a2,c2,rfl,-,-⟩:=ho.slice;have HO:=V (show dS 191 4 xV w2 w1.heap.size (.slice a2 (eM.length+1) c2) (eM++[⟨op,kind,dX.length,false⟩])by have:=ho;rwa [ah,aB]at this);have HB:=V (HB.out.keeps LH (fun h=>by have:=(ey HC.out h).1;omega));have HV:=V (HV.out.keeps LH (fun i hi h=>HNE.out i hi h));have HK:=V (HK.out.trans LH (fun i hi=> .inr (ey HC.out hi).1));clear ho LH LL;go_wp2_with fail;refine⟨⟨HB.out.cell 15,HB.out.cell 16⟩,?_⟩;iterate 2 (first | (apply sk rfl rfl;simp only [pt]) | (apply dV rfl rfl rfl;·(rintro w' ⟨t0,t1⟩;go_wp2;exact⟨rfl,rfl,rfl⟩)))
 refine fu rfl rfl ?_;have Q9:w2.cell? ⟨C,16,none⟩=some (.slice ac eM.length cc):=HB.out.cell 16;have z16:=HB.out.free 16;go_wp2;refine⟨trivial,?_⟩;refine aA ?_;clear Q9 z16;go_wp2
 go_end0
 have Lx:=ei w2 C 16 (.slice a2 (eM.length+1) c2);exact⟨rfl,⟨_,_,HB.out.set 16 _,HV.out.keeps Lx (fun i hi h=>by have:=(ey HV.out hi).1;omega),HO.out.keeps Lx (fun i hi h=>by have:=(ey HO.out hi).1;omega),HK.out.trans Lx (fun i hi=> .inl hi),hC⟩⟩
theorem zG (w1:World) (C:Nat) (u:eE) (m:eu) (lv:Value) (w:World) (c:eH) (h:fU w1 C u m lv w c) (LF:gN c):
  Calls prog 190 #[.pointer (some ⟨C,0,none⟩)] w (nj w1 C u m lv (.tuple #[]) c.dead):=by
 have hs:=LF.top;have hn:=LF.2;obtain⟨v,v',hb,hv,hc,hk,hC⟩:=h.drew.drew;obtain⟨dX,eM,bad⟩:=c;obtain⟨cs,t,rfl⟩:=qQ hn;rw [mz]at hs;simp only at hb hv hc hs;obtain⟨av,cv,rfl,M6,-⟩:=hv.slice;obtain⟨g,cap,rfl,L7,Nc,Pm,NC,NS⟩:=BM.of hb rfl hc;have hCl:=hb.lt;have HD:Hid (eH.dead ⟨dX,cs++[t],bad⟩=⟨dX.take t.eJ,cs++[{t with dead:=true}],bad⟩):=V (by
  unfold eH.dead;rw [mz];simp)
 have hct0:BM C g cs.length cap t w.drew:=NS;have HB:=V hb;have HV:=V hv;have HC:=V hc;have HK:=V hk;have Pa:=V NS;have Mq:=hk.size;have HNE:=V (fun g' (hg:ez (.slice av dX.length cv) g')=>dS.ne hv hc (by decide) g' hg);have MQ:=fun wx=>nk av dX.length cv t.eJ (by omega) wx;clear hb hv hc hk h NS hn LF;go_enter func190,ntmps190;go_wp2_with fail;refine ea (BM C g cs.length cap t) (up 0 12 []) (by kernel_rfl) (by kernel_rfl) hct0 ?_;iterate 12 (first | (apply sk rfl rfl;simp only [pt]) | (apply dV rfl rfl rfl;·(rintro w' ⟨t0,t1,t2,t3,t4⟩;go_wp2;exact⟨rfl,rfl,rfl⟩)))
 refine eF ?_;refine aA ?_;clear hct0;go_wp2_with fail;refine ea (fun w'=>w'.cell? ⟨g,cs.length*4+2,none⟩=some (.int .i64 t.eJ)) (up 0 5 (up 6 4 ((5,false)::up 10 3 ((13,false)::(14,true)::(15,true)::(16,false)::[])))) (by kernel_rfl) (by kernel_rfl) Pa.out.2.2.2.1 ?_;generalize w.drew.drew=wa at HB HV HC HK Pa Mq hCl NC⊢;iterate 9 (first | (apply sk rfl rfl;simp only [pt]) | (apply dV rfl rfl rfl;·(rintro w' t0;go_wp2;exact⟨rfl,rfl,rfl⟩)))
 refine dZ rfl rfl ?_;have Oz:wa.cell? ⟨C,15,none⟩=some (.slice av dX.length cv):=HB.out.cell 15;go_wp2_with fail;refine⟨Pa.out.2.2.2.1,?_⟩;iterate 3 (first | (apply sk rfl rfl;simp only [pt]) | (apply dV rfl rfl rfl;·(rintro w' t0;go_wp2;exact⟨rfl,rfl,rfl⟩)))
 refine dZ rfl rfl ?_;have z15:=HB.out.free 15;go_wp2_with fail;have Lx:=ei wa C 15 (.slice av t.eJ cv);have hgC:g≠C:=by omega
 have HCT2:=V (Pa.out.2.2.2.1);have HCD:=V (Pa.out.2.2.2.2);have k2:(wa.setCell ⟨C,15,none⟩ (.slice av t.eJ cv)).cell? ⟨g,cs.length*4+2,none⟩=some (.int .i64 t.eJ):=(Lx.cell NC hgC).trans HCT2.out;have k3:(wa.setCell ⟨C,15,none⟩ (.slice av t.eJ cv)).cell? ⟨g,cs.length*4+3,none⟩=some (.bool t.dead):=(Lx.cell NC hgC).trans HCD.out;have hT:=dS.take fm HV.out t.eJ hs;have HT:=V (hT.keeps Lx (fun i hi h=>by have:=(ey hT hi).1;omega));have HC2:=V (HC.out.keeps Lx (fun i hi h=>by have:=(ey HC.out hi).1;omega));have LY:=V (HB.out.set 15 (.slice av t.eJ cv));have Nv:=V (HK.out.trans Lx (fun _ h=> .inl h));refine⟨k2,?_⟩;iterate 2 (first | (apply sk rfl rfl;simp only [pt]) | (apply dV rfl rfl rfl;·(rintro w' t0;go_wp2;exact⟨rfl,rfl,rfl⟩)))
 refine dZ rfl rfl ?_;generalize wa.setCell ⟨C,15,none⟩ (.slice av t.eJ cv)=wc at HT HC2 LY Nv k2 k3⊢;have zg:=dS.free HC2.out (cs.length*4+3);clear Oz z15 Lx hT;go_wp2_with fail;have Lx:=ei wc g (cs.length*4+3) (.bool true);have MO:C≠g:=fun h=>hgC h.symm;refine⟨(by
  show(wc.setCell ⟨g,cs.length*4+3,none⟩ (.bool true)).cell? ⟨g,cs.length*4+2,none⟩=_;rw [ct _ _ _ _ (by simp)];exact k2),?_⟩
 refine eF ?_;refine aA ?_;go_wp2
 go_end0
 rw [HD.out];have h1:=dS.set jt HC2.out (i:=cs.length) (j:=3) (x:=t) (y:={t with dead:=true}) (u:= .bool true) (by simp) (by decide) rfl;have h2:(cs++[t]).set cs.length {t with dead:=true}=cs++[{t with dead:=true}]:=by simp
 rw [h2]at h1;exact⟨rfl,⟨_,_,LY.out.keeps Lx MO,HT.out.keeps Lx (fun i hi h=>HNE.out i ((dS.same i).1 hi) (by simp [ez,Value.ownBlock,h])),h1,Nv.out.trans Lx (fun i hi=> .inr (by omega)),hC⟩⟩
def Jy (C g n cap i:Nat) (t:mJ) (w:World):Prop:=
 w.cell? ⟨C,16,none⟩=some (.slice (some ⟨g,0,none⟩) n cap)/\w.cell? ⟨g,i*4,none⟩=some (.int .i64 t.op)/\w.cell? ⟨g,i*4+1,none⟩=some (.int .i64 t.kind)/\w.cell? ⟨g,i*4+2,none⟩=some (.int .i64 t.eJ)/\w.cell? ⟨g,i*4+3,none⟩=some (.bool t.dead)
theorem Jy.keeps {C g n cap i:Nat} {t:mJ} {w w':World} {S:Nat ->Prop} (h:Jy C g n cap i t w) (hk:dU S w w') (h1:C < w.heap.size/\¬ S C) (h2:g < w.heap.size/\¬ S g):Jy C g n cap i t w':=by
 obtain⟨a,b,c,d,e⟩:=h;exact⟨(hk.cell h1.1 h1.2).trans a,(hk.cell h2.1 h2.2).trans b,(hk.cell h2.1 h2.2).trans c,(hk.cell h2.1 h2.2).trans d,(hk.cell h2.1 h2.2).trans e⟩
theorem Jy.of {w:World} {B C:Nat} {v':Value} {l:List mJ} {i:Nat} {t:mJ} {xs:Array Value} {T:TypeId} (hb:eD w C xs T) (hx:xs[16]?=some v') (h:dS 191 4 xV w B v' l) (hi:l[i]?=some t):
  ∃g cap,v'= .slice (some ⟨g,0,none⟩) l.length cap/\l.length <=cap/\cap <=9223372036854775807/\B <=g/\g < w.heap.size/\Jy C g l.length cap i t w:=by
 obtain⟨g,cap,cur,rfl,Pm,NC,hg3,L7,hm⟩:=h.open (fun e=>by rw [e]at hi;simp at hi);refine⟨g,cap,rfl,L7,by simpa [maxLen] using hm,Pm,NC,?_,?_,?_,?_,?_⟩
 ·rw [hb.cell 16,hx]
 ·exact dS.cell jt h (i:=i) (j:=0) (x:=t) (u:= .int .i64 t.op) hi rfl
 ·exact dS.cell jt h (i:=i) (j:=1) (x:=t) (u:= .int .i64 t.kind) hi rfl
 ·exact dS.cell jt h (i:=i) (j:=2) (x:=t) (u:= .int .i64 t.eJ) hi rfl
 ·exact dS.cell jt h (i:=i) (j:=3) (x:=t) (u:= .bool t.dead) hi rfl
def JU (w1:World) (C:Nat) (u:eE) (m:eu) (lv:Value) (l:List Int) (c:eH) (w:World) (e:Ending) (w':World):Prop:=
 ∃v,e= .returned v/\ee 1 eU (rZ C w') v l/\fU w1 C u m lv w' c/\dU (fun i=>i=C) w w'
theorem Bv {c:eH} {k:Nat} {t:mJ} (hk:k < c.eM.length) (ht:c.eM[c.eM.length - 1 - k]?=some t):c.label (k:Int)=(if t.op=3 then []else gx t.kind,c):=by
 unfold eH.label eH.xQ;rw [az (by omega),cE,ht];rfl
theorem DR (w1:World) (C:Nat) (u:eE) (m:eu) (lv:Value) (w:World) (c:eH) (k:Nat) (h:fU w1 C u m lv w c):
  Calls prog 196 #[.pointer (some ⟨C,0,none⟩), .int .i64 k] w (JU w1 C u m lv (c.label k).1 (c.label k).2 w):=by
 have H:=V h;by_cases q:k < c.eM.length
 ·obtain⟨t,ht⟩:∃t,c.eM[c.eM.length - 1 - k]?=some t:=⟨_,aq (by omega)⟩
  have HLB:=V (Bv q ht);obtain⟨v,v',hb,hv,hc,hk,hC⟩:=h.drew;have hCl:=hb.lt;obtain⟨g,cap,rfl,L7,Nc,Pm,NC,NS⟩:=Jy.of hb rfl hc ht;have Mq:=hk.size;obtain⟨N,hN⟩:∃N,c.eM.length=N:=⟨_,rfl⟩;rw [hN]at q L7 NS;obtain⟨i,hi⟩:∃i,N - 1 - k=i:=⟨_,rfl⟩;rw [hi]at NS;have hidx:(N:Int) - 1 - (k:Int)=(i:Int):=by omega
  have Oy:i < N:=by omega
  have f1:decide ((N:Int) <=(k:Int))=false:=aw (by omega);have f2:decide (N <=k)=false:=aw (by omega);have Q9:w.cell? ⟨C,16,none⟩=some (.slice (some ⟨g,0,none⟩) N cap):=NS.1;have Pa:=V NS;clear hb hc hk hv h ht hN hi NS q;go_enter func196,ntmps196;go_wp2_with fail;refine ea (Jy C g N cap i t) (up 0 14 ((14,false)::(15,false)::[])) (by kernel_rfl) (by kernel_rfl) Pa.out ?_;clear Q9;iterate 14 (first | (apply sk rfl rfl;simp only [pt]) | (apply dV rfl rfl rfl;·(rintro w' ⟨t0,t1,t2,t3,t4⟩;go_wp2;exact⟨rfl,rfl,rfl⟩)))
  refine dZ rfl rfl ?_;go_wp2_with fail;refine⟨Pa.out.keeps ((dU.refl (fun _=>False) w.drew).alloc _) ⟨hCl,fun h=>h⟩ ⟨NC,fun h=>h⟩,?_⟩;refine dZ rfl rfl ?_;go_wp2_with fail;have LY:=V (qp w t);have HX:=V (tH w t);unfold Ej at LY HX;have HS:=V (H.out.below LY.out);have HK:=V (dU.dW (S:=fun i=>i=C) LY.out);refine⟨Pa.out.keeps (dU.dW (S:=fun _=>False) (show Below w.drew.heap.size w.drew _ from⟨LY.out.os,LY.out.tape,LY.out.output,LY.out.size,LY.out.block⟩)) ⟨hCl,fun h=>h⟩ ⟨NC,fun h=>h⟩,?_⟩;refine eF ?_;refine aA ?_;generalize(w.alloc (.cells #[.int .i64 t.op, .int .i64 t.kind, .int .i64 t.eJ, .bool t.dead] 191)).drew=wb at HX HS HK⊢;clear LY;obtain⟨⟨x0,x1,x2,x3⟩,-,-,-,-⟩:=HX.out.four;clear x2 x3;by_cases q3:t.op=3
  ·have g1:=eI q3
   have HLB:=V (show c.label k=([],c)by rw [HLB.out,aD q3]);clear q3;go_wp2;go_ret;rw [HLB.out];exact⟨_,rfl,ee.nil _,HS.out,HK.out⟩
  ·have g1:=dR q3
   have HLB:=V (show c.label k=(gx t.kind,c)by rw [HLB.out,az q3]);clear q3;go_wp2_with fail;refine(mN t.kind wb C HS.out.lt.1).mono ?_;rintro e w2 ⟨v,rfl,hl,hb⟩;have HL:=V hl;have HS:=V (HS.out.below hb);have HK:=V (HK.out.trans (dU.dW (S:=fun _=>False) hb) (fun _ h=>h.elim));clear hl hb x0 x1;go_wp2;go_ret;rw [HLB.out];exact⟨_,rfl,HL.out,HS.out,HK.out⟩
 ·obtain⟨v,v',hb,hv,hc,hk,hC⟩:=h
  obtain⟨ac,cc,rfl,-,-⟩:=hc.slice;have HLB:Hid (c.label k=([],{c with bad:=true})):=V (by unfold eH.label;rw [if_pos (by omega)]);obtain⟨N,hN⟩:∃N,c.eM.length=N:=⟨_,rfl⟩;rw [hN]at q hc hb;have f1:decide ((N:Int) <=(k:Int))=true:=ay (by omega);have f2:decide (N <=k)=true:=ay (by omega);have Q9:w.cell? ⟨C,16,none⟩=some (.slice ac N cc):=hb.cell 16;have c17:w.cell? ⟨C,17,none⟩=some (.bool c.bad):=hb.cell 17;have z17:=hb.free 17;have HB:=V hb;have HV:=V hv;have HC:=V hc;have HK:=V hk;clear hb hv hc hk q hN;go_enter func196,ntmps196;go_wp2;go_ret;have Lx:=ei w C 17 (.bool true);rw [HLB.out];exact⟨_,rfl,ee.nil _,⟨v,_,HB.out.set 17 _,HV.out.keeps Lx (fun i hi h=>by have:=(ey HV.out hi).1;omega),HC.out.keeps Lx (fun i hi h=>by have:=(ey HC.out hi).1;omega),HK.out.trans Lx (fun _ h=> .inl h),hC⟩,Lx⟩
end Go.Proofs.YtjmeglibedbljaaGreatDoor
