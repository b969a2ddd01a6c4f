import Derived.Test.YtjmeglibedbljaaGreatDoorRunNoneJ6
namespace Go.Proofs.YtjmeglibedbljaaGreatDoor
set_option maxRecDepth 100000
set_option maxHeartbeats 20000000
open Go.RowKit Tryz
open Lib renaming hid->V
set_option linter.all false
theorem mw (n:Int) (h:fO n) (b:Value) (xs:List UInt8) (B:Nat) (w:World) (Lu:ed w B b xs) (hn:xs.length <=900000000) (hB:B <=w.heap.size):
  Calls prog 171 #[b, .int .i64 n] w (gU xs (sR n) B b w):=by
 obtain⟨m,rfl⟩:∃m:Nat,n=m:=⟨n.toNat,by have:=h.1;omega⟩;exact iZ b xs m (by have:=h.2;omega) B w Lu (by omega) hB
theorem IB (w0:World) (e:gw) (u:Value × Value) (hu:gG w0 e u) (hm:e.may) (b:Value) (xs:List UInt8) (w:World) (B:Nat) (Lu:ed w B b xs) (hn:xs.length <=100000000) (hB:B <=w.heap.size) (h0:Src w0 w B):
  Calls prog 166 #[b, .agg #[u.1,u.2]] w (gU xs (lE e) B b w):=by
 have HU:=V hu;obtain⟨u1,u2⟩:=u;obtain⟨⟨⟨a1,LO,M5,-,-,-⟩,⟨a2,LA,M9,-,-,-⟩⟩,-⟩:=id hu;simp only at M5 M9;subst M5 M9;clear hu;have l1:=ji iS 1 32 e.params (fun x _=>by simp [iS]) hm.1.1;have l2:=ji iS 1 1 e.results (fun x _=>by simp [iS]) hm.2.1;clear hm;have HW:=V ((Wr.refl Lu).alloc (.cells #[.slice a1 e.params.length LO, .slice a2 e.results.length LA] 69));have HA:=V (Aside.new Lu #[.slice a1 e.params.length LO, .slice a2 e.results.length LA] 69);have HS:=V (h0.alloc (.cells #[.slice a1 e.params.length LO, .slice a2 e.results.length LA] 69));clear Lu h0;go_enter func166,ntmps166;go_wp2_with fail;refine ea (fun w'=>w'.cell? ⟨w.heap.size,0,none⟩=some (.slice a1 e.params.length LO)/\w'.cell? ⟨w.heap.size,1,none⟩=some (.slice a2 e.results.length LA)) [(0,true),(3,true),(4,true),(6,true),(7,true),(1,false),(2,false),(5,false),(8,false),(9,true)] (by kernel_rfl) (by kernel_rfl) ⟨HA.out.cell 0,HA.out.cell 1⟩ ?_;have HW:=V HW.out.drew;have HA:=V HA.out.drew;have HS:=V HS.out.drew;obtain⟨X,hX⟩:∃X,X=w.heap.size:=⟨_,rfl⟩;rw [<- hX]at HA⊢;clear hX;generalize(w.alloc (.cells #[.slice a1 e.params.length LO, .slice a2 e.results.length LA] 69)).drew=wa at HW HA HS⊢;iterate 5 (first | (apply sk rfl rfl;simp only [pt]) | (apply dV rfl rfl rfl;·(rintro w' ⟨t0,t1⟩;go_wp2;exact⟨rfl,rfl,rfl⟩)))
 refine dZ rfl rfl ?_;go_wp2_with fail;refine⟨⟨(HA.out.alloc _).cell 0,(HA.out.alloc _).cell 1⟩,?_⟩;refine dZ rfl rfl ?_;go_wp2_with (first | (at_builtin;refine eT wa rfl _ _ rfl rfl B b _ rfl HW.out.1 (96:UInt8) _ rfl rfl (by first | omega | (simp only [ah];omega) | (simp only [ah,aB];omega) | (simp only [ah,aE,aL];omega)) (HW.out.base hB) ?_));intro v1 w1 ho hk hs;have HA:=V (HA.out.next ⟨ho,hk,hs⟩);have HS:=V (HS.out.next HW.out.1 ⟨ho,hk,hs⟩);have HW:=V (HW.out.step ⟨ho,hk,hs⟩);clear ho hk hs;go_wp2_with fail;refine⟨⟨HA.out.cell 0,HA.out.cell 1⟩,?_⟩;refine dZ rfl rfl ?_;go_wp2_with fail;refine(oq w0 iS 900000000 v1 _ _ e.params B w1 168 (fun args w=>by rfl) HU.out.1.1 HW.out.1 (HW.out.base hB) HS.out (by simp only [ah,aB];omega) (by omega) (fun x _ b xs w ho hx hB _=>mY b xs x B w ho hx hB)).mono ?_;rintro e w2 ⟨v2,rfl,ho,hk,hs⟩;have HA:=V (HA.out.next ⟨ho,hk,hs⟩);have HS:=V (HS.out.next HW.out.1 ⟨ho,hk,hs⟩);have HW:=V (HW.out.step ⟨ho,hk,hs⟩);clear ho hk hs;go_wp2_with fail;refine⟨⟨HA.out.cell 0,HA.out.cell 1⟩,?_⟩;refine dZ rfl rfl ?_;go_wp2_with fail;refine(oq w0 iS 900000000 v2 _ _ e.results B w2 168 (fun args w=>by rfl) HU.out.1.2 HW.out.1 (HW.out.base hB) HS.out (by simp only [ah,aB];omega) (by omega) (fun x _ b xs w ho hx hB _=>mY b xs x B w ho hx hB)).mono ?_;rintro e w3 ⟨v3,rfl,ho,hk,hs⟩;have HA:=V (HA.out.next ⟨ho,hk,hs⟩);have HS:=V (HS.out.next HW.out.1 ⟨ho,hk,hs⟩);have HW:=V (HW.out.step ⟨ho,hk,hs⟩);clear ho hk hs;go_wp2_with fail;refine⟨⟨HA.out.cell 0,HA.out.cell 1⟩,?_⟩;iterate 1 (first | (apply sk rfl rfl;simp only [pt]) | (apply dV rfl rfl rfl;·(rintro w' ⟨t0,t1⟩;go_wp2;exact⟨rfl,rfl,rfl⟩)))
 refine eF ?_;refine aA ?_;go_wp2;go_ret;exact⟨_,rfl,by show Wr _ _ _ _ _ _;simpa [lE] using HW.out⟩
theorem Hy (w0:World) (e:jh) (u:Value) (hu:gQ w0 e u) (hm:e.may) (b:Value) (xs:List UInt8) (w:World) (B:Nat) (Lu:ed w B b xs) (hn:xs.length <=100000000) (hB:B <=w.heap.size) (h0:Src w0 w B):
  Calls prog 184 #[b, .agg #[.int .i64 e.off,u]] w (gU xs (lP e) B b w):=by
 have HU:=V hu;obtain⟨⟨a1,LO,rfl,-,-,-⟩,-⟩:=id hu;clear hu;have l1:=pJ hm.1;have l2:=ji sR 10 50 e.funcs (fun y _=>rK y) hm.2.1;have HM:=V hm;clear hm;have HW:=V ((Wr.refl Lu).alloc (.cells #[.int .i64 e.off, .slice a1 e.funcs.length LO] 77));have HA:=V (Aside.new Lu #[.int .i64 e.off, .slice a1 e.funcs.length LO] 77);have HS:=V (h0.alloc (.cells #[.int .i64 e.off, .slice a1 e.funcs.length LO] 77));clear Lu h0;go_enter func184,ntmps184;go_wp2_with fail;refine ea (fun w'=>w'.cell? ⟨w.heap.size,0,none⟩=some (.int .i64 e.off)/\w'.cell? ⟨w.heap.size,1,none⟩=some (.slice a1 e.funcs.length LO)) (up 0 3 ((4,true)::(5,true)::(3,false)::(6,false)::(7,true)::[])) (by kernel_rfl) (by kernel_rfl) ⟨HA.out.cell 0,HA.out.cell 1⟩ ?_;have HW:=V HW.out.drew;have HA:=V HA.out.drew;have HS:=V HS.out.drew;obtain⟨X,hX⟩:∃X,X=w.heap.size:=⟨_,rfl⟩;rw [<- hX]at HA⊢;clear hX;generalize(w.alloc (.cells #[.int .i64 e.off, .slice a1 e.funcs.length LO] 77)).drew=wa at HW HA HS⊢;iterate 5 (first | (apply sk rfl rfl;simp only [pt]) | (apply dV rfl rfl rfl;·(rintro w' ⟨t0,t1⟩;go_wp2;exact⟨rfl,rfl,rfl⟩)))
 refine dZ rfl rfl ?_;go_wp2_with fail;refine(wX b _ e.off B wa HW.out.1 (by omega) (HW.out.base hB) HM.out.1).mono ?_;rintro e w1 ⟨v1,rfl,ho,hk,hs⟩;have HA:=V (HA.out.next ⟨ho,hk,hs⟩);have HS:=V (HS.out.next HW.out.1 ⟨ho,hk,hs⟩);have HW:=V (HW.out.step ⟨ho,hk,hs⟩);clear ho hk hs;go_wp2_with fail;refine⟨⟨HA.out.cell 0,HA.out.cell 1⟩,?_⟩;refine dZ rfl rfl ?_;go_wp2_with fail;refine(oq w0 sR 900000000 v1 _ _ e.funcs B w1 171 (fun args w=>by rfl) HU.out.1 HW.out.1 (HW.out.base hB) HS.out (by simp only [ah];omega) (by omega) (fun x hx b xs w ho hl hB _=>mw x (HM.out.2.2 x hx) b xs B w ho hl hB)).mono ?_;rintro e w2 ⟨v2,rfl,ho,hk,hs⟩;have HA:=V (HA.out.next ⟨ho,hk,hs⟩);have HS:=V (HS.out.next HW.out.1 ⟨ho,hk,hs⟩);have HW:=V (HW.out.step ⟨ho,hk,hs⟩);clear ho hk hs;go_wp2_with fail;refine⟨⟨HA.out.cell 0,HA.out.cell 1⟩,?_⟩;iterate 1 (first | (apply sk rfl rfl;simp only [pt]) | (apply dV rfl rfl rfl;·(rintro w' ⟨t0,t1⟩;go_wp2;exact⟨rfl,rfl,rfl⟩)))
 refine eF ?_;refine aA ?_;go_wp2;go_ret;exact⟨_,rfl,by show Wr _ _ _ _ _ _;simpa [lP] using HW.out⟩
theorem Iu (w0:World) (e:gR) (u:Value) (hu:gb w0 e u) (hm:e.may) (b:Value) (xs:List UInt8) (w:World) (B:Nat) (Lu:ed w B b xs) (hn:xs.length <=100000000) (hB:B <=w.heap.size) (h0:Src w0 w B):
  Calls prog 189 #[b, .agg #[.int .i64 e.off,u]] w (gU xs (oB e) B b w):=by
 have HU:=V hu;obtain⟨⟨a1,LO,rfl,-,-,-⟩,-⟩:=id hu;clear hu;have l1:=pJ hm.1;have l2:=hm.2;have l3:=(eL e.bytes.length).2;have HM:=V hm;clear hm;have HW:=V ((Wr.refl Lu).alloc (.cells #[.int .i64 e.off, .slice a1 e.bytes.length LO] 106));have HA:=V (Aside.new Lu #[.int .i64 e.off, .slice a1 e.bytes.length LO] 106);have HS:=V (h0.alloc (.cells #[.int .i64 e.off, .slice a1 e.bytes.length LO] 106));clear Lu h0;go_enter func189,ntmps189;go_wp2_with fail;refine ea (fun w'=>w'.cell? ⟨w.heap.size,0,none⟩=some (.int .i64 e.off)/\w'.cell? ⟨w.heap.size,1,none⟩=some (.slice a1 e.bytes.length LO)) (up 0 3 (up 4 3 ((8,true)::(9,true)::(3,false)::(7,false)::(10,false)::(11,true)::[]))) (by kernel_rfl) (by kernel_rfl) ⟨HA.out.cell 0,HA.out.cell 1⟩ ?_;have HW:=V HW.out.drew;have HA:=V HA.out.drew;have HS:=V HS.out.drew;obtain⟨X,hX⟩:∃X,X=w.heap.size:=⟨_,rfl⟩;rw [<- hX]at HA⊢;clear hX;generalize(w.alloc (.cells #[.int .i64 e.off, .slice a1 e.bytes.length LO] 106)).drew=wa at HW HA HS⊢;iterate 8 (first | (apply sk rfl rfl;simp only [pt]) | (apply dV rfl rfl rfl;·(rintro w' ⟨t0,t1⟩;go_wp2;exact⟨rfl,rfl,rfl⟩)))
 refine dZ rfl rfl ?_;go_wp2_with fail;refine(wX b _ e.off B wa HW.out.1 (by omega) (HW.out.base hB) HM.out.1).mono ?_;rintro e w1 ⟨v1,rfl,ho,hk,hs⟩;have HA:=V (HA.out.next ⟨ho,hk,hs⟩);have HS:=V (HS.out.next HW.out.1 ⟨ho,hk,hs⟩);have HW:=V (HW.out.step ⟨ho,hk,hs⟩);clear ho hk hs;go_wp2_with fail;refine⟨⟨HA.out.cell 0,HA.out.cell 1⟩,?_⟩;refine dZ rfl rfl ?_;go_wp2_with fail;refine(iZ v1 _ e.bytes.length (by omega) B w1 HW.out.1 (by simp only [ah];omega) (HW.out.base hB)).mono ?_;rintro e w2 ⟨v2,rfl,ho,hk,hs⟩;have HA:=V (HA.out.next ⟨ho,hk,hs⟩);have HS:=V (HS.out.next HW.out.1 ⟨ho,hk,hs⟩);have HW:=V (HW.out.step ⟨ho,hk,hs⟩);clear ho hk hs;go_wp2_with fail;refine⟨⟨HA.out.cell 0,HA.out.cell 1⟩,?_⟩;refine dZ rfl rfl ?_;go_wp2_with (first | (at_builtin;refine iB w2 rfl _ _ rfl rfl B v2 _ rfl HW.out.1 _ _ rfl (HU.out.1.below HS.out.1) (by simp only [ah];omega) (HW.out.base hB) ?_));intro v3 w3 ho hk hs;have HA:=V (HA.out.next ⟨ho,hk,hs⟩);have HS:=V (HS.out.next HW.out.1 ⟨ho,hk,hs⟩);have HW:=V (HW.out.step ⟨ho,hk,hs⟩);clear ho hk hs;go_wp2_with fail;refine⟨⟨HA.out.cell 0,HA.out.cell 1⟩,?_⟩;iterate 1 (first | (apply sk rfl rfl;simp only [pt]) | (apply dV rfl rfl rfl;·(rintro w' ⟨t0,t1⟩;go_wp2;exact⟨rfl,rfl,rfl⟩)))
 refine eF ?_;refine aA ?_;go_wp2;go_ret;exact⟨_,rfl,by show Wr _ _ _ _ _ _;simpa [oB] using HW.out⟩
theorem Io (e:fN) (b:Value) (xs:List UInt8) (w:World) (B:Nat) (Lu:ed w B b xs) (hn:xs.length <=100000000) (hB:B <=w.heap.size) (hm0:0 <=e.min) (hm1: -1 <=e.max) (LF:e.ok):
  Calls prog 176 #[b, .agg #[.bool e.has, .int .i64 e.min, .int .i64 e.max]] w (gU xs (jy e) B b w):=by
 have h0:=tV w B;have HW:=V ((Wr.refl Lu).alloc (.cells #[.bool e.has, .int .i64 e.min, .int .i64 e.max] 28));have HA:=V (Aside.new Lu #[.bool e.has, .int .i64 e.min, .int .i64 e.max] 28);have HS:=V (h0.alloc (.cells #[.bool e.has, .int .i64 e.min, .int .i64 e.max] 28));clear Lu h0;go_enter func176,ntmps176;go_wp2_with fail;refine ea (fun w'=>w'.cell? ⟨w.heap.size,0,none⟩=some (.bool e.has)/\w'.cell? ⟨w.heap.size,1,none⟩=some (.int .i64 e.min)/\w'.cell? ⟨w.heap.size,2,none⟩=some (.int .i64 e.max)) [(0,true),(3,true),(1,false),(2,false),(4,false),(5,true)] (by kernel_rfl) (by kernel_rfl) ⟨HA.out.cell 0,HA.out.cell 1,HA.out.cell 2⟩ ?_;have HW:=V HW.out.drew;have HA:=V HA.out.drew;have HS:=V HS.out.drew;obtain⟨X,hX⟩:∃X,X=w.heap.size:=⟨_,rfl⟩;rw [<- hX]at HA⊢;clear hX;generalize(w.alloc (.cells #[.bool e.has, .int .i64 e.min, .int .i64 e.max] 28)).drew=wa at HW HA HS⊢;iterate 2 (first | (apply sk rfl rfl;simp only [pt]) | (apply dV rfl rfl rfl;·(rintro w' ⟨t0,t1,t2⟩;go_wp2;exact⟨rfl,rfl,rfl⟩)))
 refine dZ rfl rfl ?_;go_wp2_with fail;refine⟨⟨(HA.out.alloc _).cell 0,(HA.out.alloc _).cell 1,(HA.out.alloc _).cell 2⟩,?_⟩;refine dZ rfl rfl ?_;go_wp2_with (first | (at_builtin;refine eT wa rfl _ _ rfl rfl B b _ rfl HW.out.1 (112:UInt8) _ rfl rfl (by first | omega | (simp only [ah];omega) | (simp only [ah,aB];omega) | (simp only [ah,aE,aL];omega)) (HW.out.base hB) ?_));intro v1 w1 ho hk hs;have HA:=V (HA.out.next ⟨ho,hk,hs⟩);have HS:=V (HS.out.next HW.out.1 ⟨ho,hk,hs⟩);have HW:=V (HW.out.step ⟨ho,hk,hs⟩);clear ho hk hs;go_wp2_with fail;refine⟨⟨HA.out.cell 0,HA.out.cell 1,HA.out.cell 2⟩,?_⟩;refine dZ rfl rfl ?_;go_wp2_with fail;refine(pU v1 _ e B w1 HW.out.1 (by simp only [ah,aB];omega) (HW.out.base hB) hm0 hm1 LF).mono ?_;rintro e w2 ⟨v2,rfl,ho,hk,hs⟩;have HA:=V (HA.out.next ⟨ho,hk,hs⟩);have HS:=V (HS.out.next HW.out.1 ⟨ho,hk,hs⟩);have HW:=V (HW.out.step ⟨ho,hk,hs⟩);clear ho hk hs;go_wp2_with fail;refine⟨⟨HA.out.cell 0,HA.out.cell 1,HA.out.cell 2⟩,?_⟩;iterate 1 (first | (apply sk rfl rfl;simp only [pt]) | (apply dV rfl rfl rfl;·(rintro w' ⟨t0,t1,t2⟩;go_wp2;exact⟨rfl,rfl,rfl⟩)))
 refine eF ?_;refine aA ?_;go_wp2;go_ret;exact⟨_,rfl,by show Wr _ _ _ _ _ _;simpa [jy] using HW.out⟩
def oL (x:Int) (rs:List (Nat × Int)):List (Nat × Int):=match rs with
 | []=>[(1,x)]
 | (n,k)::t=>if x=k then(n+1,k)::t else(1,x)::(n,k)::t
theorem oR (x:Int) (l:List Int):gp (x::l)=oL x (gp l):=rfl
def kB:List (Nat × Int) ->Int ->List (Nat × Int)
 | [],k=>[(1,k)]
 | [x],k=>if x.2=k then [(x.1+1,k)]else [x,(1,k)]
 | x::y::t,k=>x::kB (y::t) k
theorem BU (x k:Int):∀rs:List (Nat × Int),oL x (kB rs k)=kB (oL x rs) k
 | []=>by
  simp only [kB,oL]
 | [(n,k')]=>by
  by_cases h1:k'=k
  ·by_cases h2:x=k'
   ·subst h1 h2
    simp [kB,oL]
   ·subst h1
    simp [kB,oL,h2]
  ·by_cases h2:x=k'
   ·subst h2
    simp [kB,oL,h1]
   ·simp [kB,oL,h1,h2]
 | (n,k')::y::t=>by
  by_cases h2:x=k'
  ·simp [kB,oL,h2]
  ·simp [kB,oL,h2]
theorem mX (k:Int):∀l:List Int,gp (l++[k])=kB (gp l) k
 | []=>rfl
 | x::l=>by rw [bI,oR,mX k l,BU,oR]
theorem qF (n:Nat) (k' k:Int):∀rs:List (Nat × Int),kB (rs++[(n,k')]) k=rs++(if k'=k then [(n+1,k)]else [(n,k'),(1,k)])
 | []=>by simp [kB]
 | [x]=>by
  show x::kB [(n,k')] k=_;rw [kB];rfl
 | x::y::t=>by
  have h:=qF n k' k (y::t);show x::kB (y::t++[(n,k')]) k=_;rw [h];rfl
theorem xh:∀l:List Int,l≠[] ->∃rs n k,gp l=rs++[(n,k)]/\l.getLast?=some k/\1 <=n
 | [],h=>absurd rfl h
 | [x],_=>⟨[],1,x,rfl,rfl,ag _⟩
 | x::y::l,_=>by
  obtain⟨rs,n,k,h1,h2,h3⟩:=xh (y::l) (by simp);rw [oR,h1];cases rs with
  | nil=>
   simp only [cg,oL];split
   ·exact⟨[],n+1,k,rfl,by rw [cY];exact h2,by omega⟩
   ·exact⟨[(1,x)],n,k,rfl,by rw [cY];exact h2,h3⟩
  | cons a t=>
   obtain⟨m,z⟩:=a;simp only [bI,oL];split
   ·exact⟨(m+1,z)::t,n,k,rfl,by rw [cY];exact h2,h3⟩
   ·exact⟨(1,x)::(m,z)::t,n,k,rfl,by rw [cY];exact h2,h3⟩
def IP (x:(Nat × Int) × Value):List Value:=[x.2]
def rq (u:Value):List Value:=[u]
def mO (w:World) (x:Nat × Int) (u:Value):Prop:=ee 1 eU w u (List.replicate x.1 x.2)/\1 <=x.1
theorem mO.ext {w w':World} {x:Nat × Int} {u:Value} (h:mO w x u) (he:Ext w w'):mO w' x u:=⟨h.1.ext he,h.2⟩
theorem rm (u:Value):(rq u).length=1:=rfl
theorem wL (u:Int):(eU u).length=1:=rfl
theorem zp {α:Type} {t:TypeId} {k:Nat} {enc:α ->List Value} {w:World} {B:Nat} {v:Value} {l:List α} {S:Nat ->Bool} (hk:∀x,(enc x).length=k) (h:dS t k enc w B v l) (hs:∀i,ez v i ->S i=false):ee k enc (mask S w) v l:=by
 suffices h:dS t k enc (mask S w) B v l from h.fH hk
 obtain⟨hl,hv | ⟨g,cap,cur,hv,hb,hg,rest⟩⟩:=h
 ·exact⟨hl, .inl hv⟩
 ·exact⟨hl, .inr ⟨g,cap,cur,hv,hb,by rw [ja w (hs g (by rw [hv];rfl))];exact hg,rest⟩⟩
def Aq (B:Nat) (v ul:Value):Nat ->Bool:=fun k=>decide (k < B) || decide (v.ownBlock=some k) || decide (ul.ownBlock=some k)
theorem lG {B k:Nat} {v ul:Value}:Aq B v ul k=true↔(k < B\/ez v k)\/ez ul k:=by simp [Aq,ez]
def iu (w:World) (B:Nat) (v:Value) (rs:List (Nat × Int)):Prop:=
 (rs=[]/\v= .slice none 0 0)\/∃(OF:List (Nat × Int)) (MG:List Value) (ul:Value) (n:Nat) (k:Int),rs=OF++[(n,k)]/\MG.length=OF.length/\dS 26 1 rq w B v (MG++[ul])/\
  dS 3 1 eU w B ul (List.replicate n k)/\1 <=n/\∀(i:Nat) (x:Nat × Int) (u:Value),OF[i]?=some x ->MG[i]?=some u ->mO (mask (Aq B v ul) w) x u
theorem iu.deep {w:World} {B:Nat} {v:Value} {rs:List (Nat × Int)} (h:iu w B v rs):ef 1 IP mO w v rs:=by
 rcases h with⟨rfl,rfl⟩ | ⟨OF,MG,ul,n,k,rfl,h2,h3,h4,h5,h6⟩
 ·exact ef.nil w
 ·refine⟨MG++[ul],by simp [h2],?_,fun i x u hx hu=>?_⟩
  ·obtain⟨a,cap,hv,c1,c2,c3⟩:=h3.fH rm
   have hl:((OF++[(n,k)]).zip (MG++[ul])).length=(MG++[ul]).length:=by simp [bS,h2]
   refine⟨a,cap,by rw [hl];exact hv,by rw [hl];exact c1,c2,fun i x hx=>?_⟩;obtain⟨x1,x2⟩:=x;have Pn:(MG++[ul])[i]?=some x2:=(cR.1 hx).2;exact c3 i x2 Pn
  ·rcases Nat.lt_trichotomy i OF.length with g | g | g
   ·rw [bE g]at hx
    rw [bE (by omega)]at hu;have:=h6 i x u hx hu;exact⟨this.1.fK,this.2⟩
   ·subst g
    rw [bA (ag _)]at hx;rw [bA (by omega)]at hu;simp [h2]at hx hu;subst hx hu;exact⟨h4.fH wL,h5⟩
   ·rw [dj (by simp;omega)]at hx
    cases hx
theorem iu.grow {w1 wa w2:World} {B g cap:Nat} {OF:List (Nat × Int)} {MG:List Value} {ul v':Value} {n:Nat} {k:Int} (h2:MG.length=OF.length)
  (h3:dS 26 1 rq w1 B (.slice (some ⟨g,0,none⟩) (MG.length+1) cap) (MG++[ul])) (h4:dS 3 1 eU w1 B ul (List.replicate n k))
  (h6:∀(i:Nat) (x:Nat × Int) (u:Value),OF[i]?=some x ->MG[i]?=some u ->mO (mask (Aq B (.slice (some ⟨g,0,none⟩) (MG.length+1) cap) ul) w1) x u)
  (ho:dS 3 1 eU w2 B v' (List.replicate n k++[k])) (hk:dU (ez ul) w1 w2) (hs:eB w1 ul v') (hwa:wa=w2.setCell ⟨g,MG.length,none⟩ v'):
  iu wa B (.slice (some ⟨g,0,none⟩) (MG.length+1) cap) (OF++[(n+1,k)]):=by
 subst hwa;have hd:∀i,ez (.slice (some ⟨g,0,none⟩) (MG.length+1) cap) i ->¬ ez ul i:=fun i hi=>dS.ne h3 h4 (by decide) i hi;have h3':=dS.keeps h3 hk hd;have hgo:ez (.slice (some ⟨g,0,none⟩) (MG.length+1) cap) g:=rfl;have QY:∀i,ez v' i ->¬ i=g:=fun i hi he=>dS.ne h3' ho (by decide) g hgo (by rw [<- he];exact hi);have O8:dU (fun i=>i=g) w2 (w2.setCell ⟨g,MG.length,none⟩ v'):=⟨rfl,rfl,rfl,by simp,fun j _ hj=>cH w2 ⟨g,MG.length,none⟩ v' j hj⟩;refine .inr ⟨OF,MG,v',n+1,k,rfl,h2,?_,?_,by omega,fun i x u hx hu=>(h6 i x u hx hu).ext ?_⟩
 ·have:=dS.set rm h3' (i:=MG.length) (j:=0) (x:=ul) (y:=v') (u:=v') (by simp) (by omega) rfl
  rw [aY,aI]at this;simpa using this
 ·rw [List.replicate_succ']
  exact ho.keeps O8 QY
 ·refine iC (P:=fun i=>ez ul i\/i=g) ((hk.mono (fun i hi=> .inl hi)).trans O8 (fun i hi=> .inl (.inr hi))) (fun i _ hi=>lG.2 ?_) (fun i LD hi=>lG.2 ?_)
  ·rcases hi with hi | rfl
   ·exact .inr hi
   ·exact .inl (.inr rfl)
  ·rcases lG.1 hi with hi | hi
   ·exact .inl hi
   ·rcases hs i hi with h | h
    ·exact .inr h
    ·omega
theorem iu.new {w1 w2:World} {B:Nat} {v v':Value} {rs:List (Nat × Int)} {us:List Value} {k:Int} (h:iu w1 B v rs) (hu:dS 26 1 rq w1 B v us)
  (hus:us.length=rs.length) (ho:dS 26 1 rq w2 B v' (us++[.slice (some ⟨w1.heap.size,0,none⟩) 1 1]))
  (hk:dU (ez v) (w1.alloc (.cells #[.int .i64 k] 3)) w2) (hs:eB w1 v v') (hB:B <=w1.heap.size)
  (heq:∀OF MG ul n k',rs=OF++[(n,k')] ->MG.length=OF.length ->dS 26 1 rq w1 B v (MG++[ul]) ->us=MG++[ul]):
  iu w2 B v' (rs++[(1,k)]):=by
 have LR:Below w1.heap.size w1 (w1.alloc (.cells #[.int .i64 k] 3)):=(an _ _).alloc (ag _) _;have QT:∀i,ez v i ->i < w1.heap.size:=fun i hi=>(ey hu hi).2;have hnew:eD w2 w1.heap.size #[.int .i64 k] 3:=(eD.new w1 #[.int .i64 k] 3).keeps hk (fun hi=>by have:=QT _ hi;omega);have Mq:w1.heap.size < w2.heap.size:=hnew.lt;have honew:dS 3 1 eU w2 B (.slice (some ⟨w1.heap.size,0,none⟩) 1 1) (List.replicate 1 k):=
  ⟨by simp [eU], .inr ⟨w1.heap.size,1,#[.int .i64 k],rfl,hB,hnew,ag _,by simp [maxLen],by simp,by simp [eU]⟩⟩
 have M7:dU (ez v) w1 w2:=(dU.dW LR).trans hk (fun i hi=> .inl hi);have hS:∀ul:Value,∀i,i < w1.heap.size ->Aq B v' (.slice (some ⟨w1.heap.size,0,none⟩) 1 1) i=true ->Aq B v ul i=true:=fun ul i LD hi=>by
  rcases lG.1 hi with(hi | hi) | hi
  ·exact lG.2 (.inl (.inl hi))
  ·rcases hs i hi with h | h
   ·exact lG.2 (.inl (.inr h))
   ·omega
  ·simp [ez,Value.ownBlock]at hi
   omega
 rcases h with⟨rfl,rfl⟩ | ⟨OF,MG,ul,n,k',rfl,h2,h3,h4,h5,h6⟩
 ·have he:us=[]:=aH hus
  subst he;exact .inr ⟨[],[],_,1,k,rfl,rfl,ho,honew,ag _,fun i x u hx=>by simp at hx⟩
 ·obtain rfl:=heq OF MG ul n k' rfl h2 h3
  have h4k:dS 3 1 eU w2 B ul (List.replicate n k'):=h4.keeps M7 (fun i hi hv=>dS.ne h4 h3 (by decide) i hi hv);refine .inr ⟨OF++[(n,k')],MG++[ul],_,1,k,rfl,by simp [h2],ho,honew,ag _,fun i x u hx hu=>?_⟩;rcases Nat.lt_trichotomy i OF.length with g | g | g
  ·rw [bE g]at hx
   rw [bE (by omega)]at hu;exact(h6 i x u hx hu).ext (iC M7 (fun i _ hi=>lG.2 (.inl (.inr hi))) (fun i LD hi=>hS ul i LD hi))
  ·subst g
   rw [bA (ag _)]at hx;rw [bA (by omega)]at hu;simp [h2]at hx hu;subst hx hu;refine⟨zp wL h4k (fun i hi=>?_),h5⟩;cases hb:Aq B v' (.slice (some ⟨w1.heap.size,0,none⟩) 1 1) i with
   | false=>rfl
   | true=>
    exfalso;have h7:=ey h4 hi;rcases lG.1 hb with(h | h) | h
    ·omega
    ·exact dS.ne h4k ho (by decide) i hi h
    ·simp [ez,Value.ownBlock]at h
     omega
  ·rw [dj (by simp;omega)]at hx
   cases hx
def rk {α β:Type} (fv k:Nat) (enc:α × β ->List Value) (inner:World ->α ->β ->Prop) (val:α ->β ->Value):Prop:=∀(w0:World) (put:α ->List UInt8) (C:Nat) (b:Value) (xs:List UInt8) (v:Value) (l:List α) (B:Nat) (w:World) (Ly:Nat),(∀args w,(callFunc Ly args).run prog w= .ok (.enter Ly args) w) ->ef k enc inner w0 v l ->ed w B b xs ->B <=w.heap.size ->Src w0 w B ->xs.length+(ia put l).length <=C ->C <=900000000 ->
 (∀e∈l,∀u,inner w0 e u ->∀b xs w,ed w B b xs ->xs.length <=C ->B <=w.heap.size ->Src w0 w B ->Calls prog Ly #[b,val e u] w (gU xs (put e) B b w)) ->Calls prog fv #[b,v, .func (.func Ly) #[] #[]] w (gU xs (ia put l) B b w)
def Ay {α β:Type} (fv k:Nat) (enc:α × β ->List Value) (inner:World ->α ->β ->Prop) (val:α ->β ->Value):Prop:=∀(w0:World) (put:α ->List UInt8) (no:Nat) (_:no < 256) (b:Value) (xs:List UInt8) (v:Value) (l:List α) (B:Nat) (w:World) (Ly:Nat),(∀args w,(callFunc Ly args).run prog w= .ok (.enter Ly args) w) ->ef k enc inner w0 v l ->Row w B b xs ->B <=w.heap.size ->Below w0.heap.size w0 w ->xs.length+(ia put l).length <=100000000 ->
 (∀e∈l,∀u,inner w0 e u ->∀b xs w B,ed w B b xs ->xs.length <=100000000 ->B <=w.heap.size ->Src w0 w B ->Calls prog Ly #[b,val e u] w (gU xs (put e) B b w)) ->Calls prog fv #[b, .int .i64 no,v, .func (.func Ly) #[] #[]] w (Cx xs (ij (b8 no) put l) B b w)
theorem py:rk 268 2 oV gG (fun _ u=> .agg #[u.1,u.2])/\rk 276 2 oY gE (fun _ u=> .agg #[u.1,u.2])/\rk 275 2 rE gQ (fun e u=> .agg #[.int .i64 e.off,u])/\rk 280 2 nJ gb (fun e u=> .agg #[.int .i64 e.off,u])/\rk 277 1 IP mO (fun _ u=>u):=by
 refine⟨?_,?_,?_,?_,?_⟩
 all_goals
  intro w0 put C b xs v l B w Ly hE hl Lu hB h0 hC OJ hp;have HP:=V hp;have HL:=V hl;have H0:=V h0;have HC:=V hC;have HW:=V (Wr.refl Lu);have hxs:xs.length <=900000000:=by omega
  obtain⟨a,cap,rfl,N3,MF⟩:=ef.slice hl;clear hp hl h0 hC Lu OJ
  first | go_enter func268,ntmps268 | go_enter func276,ntmps276 | go_enter func275,ntmps275 | go_enter func280,ntmps280 | go_enter func277,ntmps277
  go_wp2_with fail;refine(iZ b xs l.length (by omega) B w HW.out.1 (by omega) hB).mono ?_;rintro e w2 ⟨v2,rfl,ho,hk,hs⟩;have MD:=V (HW.out.step ⟨ho,hk,hs⟩);have MM:=V (H0.out.next HW.out.1 ⟨ho,hk,hs⟩);clear ho hk hs;go_wp2_with fail;refine eC (fun a' w'=>∃(vb:Value) (k:Nat),a'=fr (vb::gs a' 1 1 (.func (.func Ly) #[] #[]::gs a' 3 10 (.slice a l.length cap:: .int .i64 l.length:: .int .i64 k::gs a' 16 9 [])))/\Kx w0 put xs l B b w w' vb k) (fun a' _=>(l.length - (intOf (a'.tmps.getD 15 undef)).toNat)) ?_ ?_
  ·exact⟨_,0,rfl,by omega,by simpa using MD.out,MM.out⟩
  ·skip
   clear HW MD MM H0 v2;rintro R a' w1 ⟨vb,k,Lv,hJ⟩ HR;dsimp only [fr,gs]at Lv;generalize slot a'=f at Lv;subst Lv;obtain⟨hk,hwr,hsr⟩:=hJ;have HW:=V hwr;have HS:=V hsr;have HC1:=V (show(xs++(eO l.length++((l.take k).map put).flatten)).length <=C by
    have h1:=HC.out;have h2:=wU put l k;simp only [ia,ah]at*;omega)
   clear hwr hsr;by_cases q:k < l.length;rotate_left
   ·obtain rfl:k=l.length:=by omega
    have HW:=V (show Wr w b B w1 vb (xs++ia put l)by have:=HW.out;rwa [aU]at this);go_wp2;go_ret;exact⟨_,rfl,HW.out⟩
   obtain⟨x,hx⟩:∃x,l[k]?=some x:=⟨_,aq q⟩;obtain⟨bb,off,u,rfl,LD,Pp,hu⟩:=ef.get HL.out hx;have HU:=V hu;have c0:=(HS.out.1.cell LD).trans (Pp 0 _ rfl)
   try have c1:=(HS.out.1.cell LD).trans (Pp 1 _ rfl)
   try have c2:=(HS.out.1.cell LD).trans (Pp 2 _ rfl)
   rw [aI]at c0
   try rw [aY]at c0
   first
    | (obtain⟨⟨a1,LO,M5,-,-,-⟩,-⟩:=id hu;rw [bp]at M5;subst M5)
    | (obtain⟨⟨a1,LO,rfl,-,-,-⟩,-⟩:=id hu)
    | (obtain⟨u1,u2⟩:=u;obtain⟨⟨⟨a1,LO,M5,-,-,-⟩,⟨a2,LA,M9,-,-,-⟩⟩,-⟩:=id hu;simp only at M5 M9;subst M5 M9)
    | (obtain⟨u1,u2⟩:=u;obtain⟨⟨⟨a1,LO,M5,-,-,-⟩,Me⟩,-⟩:=id hu;obtain⟨a2,LA,M9,-,-⟩:=ef.slice Me;simp only at M5 M9;subst M5 M9;clear Me)
   have HX:=V hx;clear Pp hx hu;go_wp2_with fail;refine(HP.out x (aN HX.out) _ HU.out _ _ _ (by first | exact HW.out.1 | exact(HW.out.alloc _).1) HC1.out (by first | exact HW.out.base hB | exact(HW.out.alloc _).base hB) (by first | exact HS.out | exact HS.out.alloc _)).mono ?_;rintro e w2 ⟨v2,rfl,L4,LH,LL⟩;have MD:=V (Wr.step (by first | exact HW.out | exact HW.out.alloc _) ⟨L4,LH,LL⟩);have MM:=V (Src.next (by first | exact HS.out | exact HS.out.alloc _) (by first | exact HW.out.1 | exact(HW.out.alloc _).1) ⟨L4,LH,LL⟩);clear L4 LH LL c0
   try clear c1
   try clear c2
   go_wp2;refine HR.out _ _ ⟨_,k+1,rfl,by omega,?_,MM.out⟩ ?_
   ·have:=MD.out
    rw [aR,HX.out];simpa using this
   ·simp [intOf]
    omega
theorem GO:rk 268 2 oV gG (fun _ u=> .agg #[u.1,u.2]):=py.1
theorem Ey:rk 276 2 oY gE (fun _ u=> .agg #[u.1,u.2]):=py.2.1
theorem Gr:rk 275 2 rE gQ (fun e u=> .agg #[.int .i64 e.off,u]):=py.2.2.1
theorem Fq:rk 280 2 nJ gb (fun e u=> .agg #[.int .i64 e.off,u]):=py.2.2.2.1
theorem FI:rk 277 1 IP mO (fun _ u=>u):=py.2.2.2.2
theorem ru:(rk 268 2 oV gG (fun _ u=> .agg #[u.1,u.2]) ->Ay 165 2 oV gG (fun _ u=> .agg #[u.1,u.2]))/\(rk 276 2 oY gE (fun _ u=> .agg #[u.1,u.2]) ->Ay 186 2 oY gE (fun _ u=> .agg #[u.1,u.2]))/\(rk 275 2 rE gQ (fun e u=> .agg #[.int .i64 e.off,u]) ->Ay 183 2 rE gQ (fun e u=> .agg #[.int .i64 e.off,u]))/\(rk 280 2 nJ gb (fun e u=> .agg #[.int .i64 e.off,u]) ->Ay 188 2 nJ gb (fun e u=> .agg #[.int .i64 e.off,u])):=by
 refine⟨?_,?_,?_,?_⟩
 all_goals
  intro HV w0 put no MR b xs v l B w Ly hE hl Lu hB h0 hC hp;have HP:=V hp;have HL:=V hl;have H0:=V h0;have HW:=V (xy.refl Lu);obtain⟨a,cap,rfl,N3,MF⟩:=ef.slice hl;clear hp hl h0 Lu;by_cases q:l.length=0
  ·have f1:=eI (show(l.length:Int)=0 by omega)
   have HN:=V (show l=[]from aH q);clear q
   first | go_enter func165,ntmps165 | go_enter func186,ntmps186 | go_enter func183,ntmps183 | go_enter func188,ntmps188
   go_wp2;go_ret;exact⟨_,rfl,by rw [HN.out];simpa [ij] using HW.out⟩
  ·have f1:=dR (show ¬ (l.length:Int)=0 by omega)
   have HN:Hid (ij (b8 no) put l=b8 no::(eO (ia put l).length++ia put l)):=V (by
    cases l with
    | nil=>exact absurd rfl q
    | cons x l=>rfl)
   clear q
   first | go_enter func165,ntmps165 | go_enter func186,ntmps186 | go_enter func183,ntmps183 | go_enter func188,ntmps188
   go_wp2_with fail;refine(HV w0 put 100000000 (.slice none 0 0) [] _ l w.heap.size w Ly hE HL.out (ed.nil _ _) (ag _) ⟨H0.out,H0.out.size⟩ (by simp only [aL];omega) (by decide) (fun e he u hu b xs w ho hx hB h0=>HP.out e he u hu b xs w _ ho hx hB h0)).mono ?_;rintro e w2 ⟨v2,rfl,ho,hk,hs⟩;rw [cg]at ho;have Lw:=rM hk rfl;have HO:=V ho;have MD:=V (HW.out.below Lw);obtain⟨a2,LA,ev2,-,-,-⟩:=ho.gl;subst ev2;have hdis:∀i,ez (.slice a2 (ia put l).length LA) i ->¬ ez b i:=fun i h1 h2=>by
    have:=(ey HO.out h1).1;have:=(HW.out.1.lt h2).2;omega
   have HD:=V hdis;clear ho hk hs hE hdis;go_wp2_with (first | (at_builtin;refine qV w2 rfl _ _ rfl rfl B b _ rfl MD.out.1 (b8 no) _ ?_ ?_ ?_ ?_ ?_))
   ·rw [gC MR]
   ·rfl
   ·omega
   ·exact MD.out.base hB
   intro v3 w3 ho hk hs;have PZ:=V (MD.out.own ⟨ho,hk,hs⟩);have HO3:=V (HO.out.keeps hk HD.out);have HD3:=V (show∀i,ez (.slice a2 (ia put l).length LA) i ->¬ ez v3 i from fun i h1 h2=>(hs i h2).elim (HD.out i h1) (fun g=>by have:=(ey HO.out h1).2;omega));clear ho hk hs;go_wp2_with fail;refine(iZ v3 _ (ia put l).length (by omega) B w3 PZ.out.1 (by simp only [ah,aB];omega) (PZ.out.base hB)).mono ?_;rintro e w4 ⟨v4,rfl,ho,hk,hs⟩;have NJ:=V (PZ.out.step ⟨ho,hk,hs⟩);have O6:=V (HO3.out.keeps hk HD3.out);have hp4:=(eL (ia put l).length).2;clear ho hk hs;go_wp2_with (first | (at_builtin;refine iB w4 rfl _ _ rfl rfl B v4 _ rfl NJ.out.1 _ _ rfl O6.out.gl (by simp only [ah,aB];omega) (NJ.out.base hB) ?_));intro v5 w5 ho hk hs;have HW5:=V (NJ.out.step ⟨ho,hk,hs⟩);clear ho hk hs;go_wp2;go_ret;exact⟨_,rfl,by rw [HN.out];exact HW5.out.row⟩
theorem EI:Ay 165 2 oV gG (fun _ u=> .agg #[u.1,u.2]):=ru.1 GO
theorem FA:Ay 186 2 oY gE (fun _ u=> .agg #[u.1,u.2]):=ru.2.1 Ey
theorem Fo:Ay 183 2 rE gQ (fun e u=> .agg #[.int .i64 e.off,u]):=ru.2.2.1 Gr
theorem EO:Ay 188 2 nJ gb (fun e u=> .agg #[.int .i64 e.off,u]):=ru.2.2.2 Fq
theorem IJ (w0:World) (e:Nat × Int) (u:Value) (hu:mO w0 e u) (b:Value) (xs:List UInt8) (w:World) (B:Nat) (Lu:ed w B b xs) (hn:xs.length <=800000000) (hB:B <=w.heap.size) (h0:Src w0 w B) (hm:e.1 <=1000000):
  Calls prog 278 #[b,u] w (gU xs (xA e) B b w):=by
 obtain⟨n,k⟩:=e;have hn1:1 <=n:=hu.2;have Px:n <=1000000:=hm;have hp:=(eL n).2;obtain⟨a,cap,rfl,N3,MF,hc3⟩:=hu.1;obtain⟨X,off,rfl,LD,LM⟩:=hc3 0 k (by rw [List.getElem?_replicate];simp;omega);have PC:=LM 0 _ rfl;rw [dL,aI]at PC;simp only [bp]at N3⊢;have HC:=V PC;have HLT:=V LD;have HW:=V (Wr.refl Lu);have HS:=V h0;have c0:=(HS.out.1.cell HLT.out).trans HC.out;clear LM hc3 PC LD hu Lu h0 hm;go_enter func278,ntmps278;go_wp2_with fail;refine ea (fun w'=>w'.cell? ⟨X,off,none⟩=some (.int .i64 k)) (up 0 3 (up 4 3 ((3,false)::(7,false)::(8,true)::[]))) (by kernel_rfl) (by kernel_rfl) c0 ?_;have HW:=V HW.out.drew;have HS:=V HS.out.drew;generalize w.drew=wa at HW HS⊢;iterate 6 (first | (apply sk rfl rfl;simp only [pt]) | (apply dV rfl rfl rfl;·(rintro w' t0;go_wp2;exact⟨rfl,rfl,rfl⟩)))
 refine dZ rfl rfl ?_;go_wp2_with fail;refine(iZ b xs n (by omega) B wa HW.out.1 (by omega) (HW.out.base hB)).mono ?_;rintro e w1 ⟨v1,rfl,ho,hk,hs⟩;have HS:=V (HS.out.next HW.out.1 ⟨ho,hk,hs⟩);have HW:=V (HW.out.step ⟨ho,hk,hs⟩);clear ho hk hs;have c0:=(HS.out.1.cell HLT.out).trans HC.out;go_wp2_with fail;refine⟨c0,?_⟩;refine dZ rfl rfl ?_;go_wp2_with fail;refine(mY v1 _ k B w1 HW.out.1 (by simp only [ah];omega) (HW.out.base hB)).mono ?_;rintro e w2 ⟨v2,rfl,ho,hk,hs⟩;have HS:=V (HS.out.next HW.out.1 ⟨ho,hk,hs⟩);have HW:=V (HW.out.step ⟨ho,hk,hs⟩);clear ho hk hs;have c0:=(HS.out.1.cell HLT.out).trans HC.out;go_wp2_with fail;refine⟨c0,?_⟩;iterate 1 (first | (apply sk rfl rfl;simp only [pt]) | (apply dV rfl rfl rfl;·(rintro w' t0;go_wp2;exact⟨rfl,rfl,rfl⟩)))
 refine eF ?_;refine aA ?_;go_wp2;go_ret;exact⟨_,rfl,by show Wr _ _ _ _ _ _;simpa [xA] using HW.out⟩
theorem wY:(prog.info? 26).map (fun i=>(i.zero,i.size,i.bytes))=some (some (.slice none 0 0),1,24):=by kernel_rfl
theorem EZ {w:World} {B:Nat} {v:Value} {us PH:List Value} (h:dS 26 1 rq w B v us) (h':dS 26 1 rq w B v PH):us=PH:=by
 have hf:∀l:List Value,l.flatMap rq=l:=fun l=>by
  induction l with
  | nil=>rfl
  | cons x l ih=>rw [bL,ih];rfl
 obtain⟨_,hv | ⟨g,cap,cur,hv,hb,hg,hn,hm,hs,ht⟩⟩:=h
 ·obtain⟨_,P6 | ⟨g',LQ,cur',P6,_⟩⟩:=h'
  ·rw [aH hv.2,aH P6.2]
  ·rw [hv.1]at P6
   cases P6
 ·obtain⟨_,P6 | ⟨g',LQ,cur',P6,_,Rv,_,_,_,ht'⟩⟩:=h'
  ·rw [P6.1]at hv
   cases hv
  ·rw [hv]at P6
   injection P6 with e1 e2 e3;injection e1 with e1;injection e1 with e1;subst e1;rw [hg]at Rv;injection Rv with Rv;injection Rv with Rv;rw [e2,Rv,ht']at ht;rw [hf,hf]at ht;exact ht.symm
theorem iu.rows {w:World} {B:Nat} {v:Value} {rs:List (Nat × Int)} (h:iu w B v rs):∃us,dS 26 1 rq w B v us/\us.length=rs.length/\
  ∀OF MG ul n k',rs=OF++[(n,k')] ->MG.length=OF.length ->dS 26 1 rq w B v (MG++[ul]) ->us=MG++[ul]:=by
 rcases h with⟨rfl,rfl⟩ | ⟨OF,MG,ul,n,k,rfl,h2,h3,h4,h5,h6⟩
 ·exact⟨[],dS.nil _ _,rfl,fun OF MG ul n k' he=>by simp at he⟩
 ·exact⟨MG++[ul],h3,by simp [h2],fun _ _ _ _ _ _ _ h=>EZ h3 h⟩
theorem iu.last {w:World} {B:Nat} {v:Value} {OF:List (Nat × Int)} {n:Nat} {k:Int} (h:iu w B v (OF++[(n,k)])):
  ∃(MG:List Value) (ul:Value),MG.length=OF.length/\dS 26 1 rq w B v (MG++[ul])/\
  dS 3 1 eU w B ul (List.replicate n k)/\1 <=n/\∀(i:Nat) (x:Nat × Int) (u:Value),OF[i]?=some x ->MG[i]?=some u ->mO (mask (Aq B v ul) w) x u:=by
 rcases h with⟨h,_⟩ | ⟨rs1,MG,ul,n1,k1,he,h2,h3,h4,h5,h6⟩
 ·simp at h
 ·obtain⟨e1,e2⟩:=List.append_inj' he rfl
  simp only [List.cons.injEq,Prod.mk.injEq,and_true]at e2;obtain⟨rfl,rfl⟩:=e2;subst e1;exact⟨MG,ul,h2,h3,h4,h5,h6⟩
theorem dS.free {α:Type} {t:TypeId} {k:Nat} {enc:α ->List Value} {w:World} {B g n cap:Nat} {l:List α} (h:dS t k enc w B (.slice (some ⟨g,0,none⟩) n cap) l) (i:Nat):w.frozen? ⟨g,i,none⟩=false:=by
 obtain⟨_,hv | ⟨g',LQ,cur,hv,hb,hg,hn,hm,hs,ht⟩⟩:=h
 ·cases hv.1
 ·injection hv with e1
  injection e1 with e1;injection e1 with e1;subst e1;exact cX w g i cur _ hg
def KY (ls:List Int) (wA w':World) (v:Value) (k:Nat):Prop:=k <=ls.length/\Below wA.heap.size wA w'/\iu w' wA.heap.size v (gp (ls.take k))
theorem IZ (w0:World) (e:hI) (u:Value × Value) (hu:gE w0 e u) (hm:e.may) (b:Value) (xs:List UInt8) (w:World) (B:Nat) (Lu:ed w B b xs) (hn:xs.length <=100000000) (hB:B <=w.heap.size) (h0:Src w0 w B):
  Calls prog 187 #[b, .agg #[u.1,u.2]] w (gU xs (jV e) B b w):=by
 obtain⟨u1,u2⟩:=u;have HU:=V hu;obtain⟨⟨⟨a1,LO,M5,hca1,hca2,Lt⟩,Me⟩,-⟩:=id hu;obtain⟨a2,LA,M9,-,-⟩:=ef.slice Me;have Mv:=V Me.J9;simp only at M5 M9;subst M5 M9;have HCL:=V Lt;have hn1:e.locals.length <=32:=hm.2.1.1;have HM:=V hm;have HO:=V Lu;have H0:=V h0;have h0B:=h0.2;have HA:=V (eD.new w #[.slice a1 e.locals.length LO, .slice a2 e.body.length LA] 41);have RA:=V ((an w.heap.size w).alloc (ag _) (.cells #[.slice a1 e.locals.length LO, .slice a2 e.body.length LA] 41));clear Lt Me hu hm Lu h0;go_enter func187,ntmps187;go_wp2_with fail;obtain⟨X,hX⟩:∃X,X=w.heap.size:=⟨_,rfl⟩;rw [<- hX]at HA⊢;have hX1:=dt hX;have hX2:=dt hX.symm;clear hX;generalize w.alloc (.cells #[.slice a1 e.locals.length LO, .slice a2 e.body.length LA] 41)=wA at HA RA⊢;have hXA:X < wA.heap.size:=HA.out.lt;refine eC (fun a' w'=>∃(v:Value) (k:Nat),a'=fr (b::gs a' 1 2 (.pointer (some ⟨X,0,none⟩)::gs a' 4 1 (v::gs a' 6 4 (.slice a1 e.locals.length LO:: .int .i64 e.locals.length:: .int .i64 k::gs a' 13 48 []))))/\KY e.locals wA w' v k) (fun a' _=>(e.locals.length - (intOf (a'.tmps.getD 12 undef)).toNat)) ?_ ?_
 ·exact⟨_,0,rfl,by omega,an _ _, .inl ⟨rfl,rfl⟩⟩
 ·skip
  rintro R a' w1 ⟨v,k,Lv,hJ⟩ HR;dsimp only [fr,gs]at Lv;generalize slot a'=f at Lv;subst Lv;obtain⟨hk,Qi,hrn⟩:=hJ;have L5:=V Qi;have HRN:=V hrn;have HX1:=V (HA.out.below Qi hXA);have x0:w1.cell? ⟨X,0,none⟩=some (.slice a1 e.locals.length LO):=HX1.out.cell 0;clear Qi hrn;by_cases q:k < e.locals.length;rotate_left
  ·obtain rfl:k=e.locals.length:=by omega
   have hl:=ud hn1;have HD:=V (show ef 1 IP mO w1 v (gp e.locals)by have:=HRN.out.deep;rwa [aU]at this);obtain⟨av,cv,rfl,-,M6⟩:=ef.slice HD.out;have P1:=L5.out.size;go_wp2_with fail;refine(FI w1 xA 1000 (.slice none 0 0) [] _ (gp e.locals) w1.heap.size w1 278 (fun args w=>by rfl) HD.out (ed.nil _ _) (ag _) ⟨an _ _,ag _⟩ (by rw [lx]at hl;simp only [aL];omega) (by omega) ?_).mono ?_
   ·intro e1 M5 u hu b xs w ho hx hB hs
    exact IJ w1 e1 u hu b xs w _ ho (by omega) hB hs (by have:=(rz _ _ M5).2;omega)
   rintro x w2 ⟨v2,rfl,L4,LH,LL⟩;have Lw:Below w1.heap.size w1 w2:=rM LH rfl;have LY:=V Lw;have MX:=V (show ed w2 w1.heap.size v2 (lx e.locals)by simpa [lx] using L4);have x1:w2.cell? ⟨X,1,none⟩=some (.slice a2 e.body.length LA):=(HX1.out.below Lw HX1.out.lt).cell 1;have OB:=Lw.size;have HBW2:=V (RA.out.trans (L5.out.mono RA.out.size));have MM:=V (show Src w0 w2 w1.heap.size from⟨H0.out.1.trans ((HBW2.out.mono H0.out.1.size).trans (Lw.mono (by have:=H0.out.1.size;have:=HBW2.out.size;omega))),by have:=H0.out.1.size;have:=HBW2.out.size;omega⟩);clear LH LL L4 Lw x0;go_wp2_with fail;refine(yS w0 v2 _ _ e.body w1.heap.size w2 MX.out (by omega) OB HU.out.1.2 MM.out HM.out.2.2.1 HM.out.2.2.2).mono ?_;rintro x w3 ⟨v3,rfl,Nl,Mz,N4⟩;have hlen3:(lx e.locals++qa e.body).length <=1000000:=by
    have h1:=rP (l:=e.body) HM.out.2.2.2 Mv.out;have h2:=HM.out.2.2.1;have h3:530*e.body.length <=530*300:=dF _ h2;simp only [qa,ah,aB];omega
   have RC:Hid (Below w1.heap.size w1 w3):=V (LY.out.trans (Mz.below OB (fun i hi=>(ey MX.out hi).1)));obtain⟨L,hL⟩:∃L,L=lx e.locals++qa e.body:=⟨_,rfl⟩;rw [<- hL]at Nl hlen3;have HL:=V hL;have HO3:=V Nl;have OC:=RC.out.size;have hsz0:=HBW2.out.size;have hb03:Below w.heap.size w w3:=HBW2.out.trans (RC.out.mono hsz0);have PZ:=V ((Wr.refl HO.out).below hb03);have HIB:=V (ed.gl Nl);obtain⟨a3,MP,rfl,-,-,-⟩:=ed.gl Nl;clear hL Mz N4 Nl x1 hb03;go_wp2_with fail;refine(iZ b xs L.length (by omega) B w3 PZ.out.1 (by omega) (PZ.out.base hB)).mono ?_;rintro x w4 ⟨v4,rfl,MW,OQ,Nb⟩;have NJ:=V (PZ.out.step ⟨MW,OQ,Nb⟩);have O6:=V (ed.gl (ed.keeps HO3.out OQ (fun i hi hj=>by have:=(ey HO3.out hi).1;have:=(ey HO.out hj).2;omega)));have hp:=(eL L.length).2;clear OQ Nb MW;go_wp2_with (first | (at_builtin;refine iB w4 rfl _ _ rfl rfl B v4 _ rfl NJ.out.1 _ _ rfl O6.out (by simp only [ah];omega) (NJ.out.base hB) ?_));intro v5 w5 ho5 N7 Qq;have HW5:=V (NJ.out.step ⟨ho5,N7,Qq⟩);clear ho5 N7 Qq;go_wp2;go_ret;exact⟨_,rfl,by
    have h:=HW5.out;rw [HL.out]at h;show Wr _ _ _ _ _ _;simpa [jV,oD] using h⟩
  obtain⟨x,hx⟩:∃x,e.locals[k]?=some x:=⟨_,aq q⟩;obtain⟨bb,off,rfl,LD,LM⟩:=HCL.out k x hx;have hb01:Below w0.heap.size w0 w1:=H0.out.1.trans ((RA.out.trans (L5.out.mono RA.out.size)).mono H0.out.1.size);have c0:=(hb01.cell LD).trans (LM 0 _ rfl);rw [aI,aY]at c0;have HX:=V hx;clear LM LD hx hb01;by_cases q0:k=0
  ·have f1:decide (0 < k)=false:=aw (by omega)
   have HSN:Hid (kB (gp (e.locals.take k)) x=gp (e.locals.take k)++[(1,x)]):=V (by subst q0;rfl);clear q0;obtain⟨us,hus,O9,huq⟩:=HRN.out.rows;have OK:us.length <=32:=by
    have:=pC (e.locals.take (k));rw [aP]at this;omega
   have HUS:=V hus;have HUQ:=V huq;have HUL:=V O9;obtain⟨av,cv,rfl,-,M6⟩:=hus.slice;have P1:=L5.out.size;clear hus huq O9;go_wp2_with (first | (at_builtin;refine fb (w1.alloc (.cells #[.int .i64 x] 3)) rfl _ _ 331 rfl _ 24 (by kernel_rfl) wY rfl (by decide) (by decide) wA.heap.size (.slice av us.length cv) us rfl (HUS.out.below ((an _ _).alloc (ag _) _)) (.slice (some ⟨w1.heap.size,0,none⟩) 1 1) _ rfl rfl (by simp [rq,Value.oneCell']) (by rw [aC];rfl) (by omega) (by rw [aC];omega) ?_));intro v' w2 ho LH LL;have hs2':eB w1 (.slice av us.length cv) v':=fun i hi=>(LL i hi).imp id (fun g=>by rw [aC]at g;omega);have HN:=V (iu.new HRN.out HUS.out HUL.out ho LH hs2' P1 HUQ.out);have HBN:Hid (Below wA.heap.size wA w2):=V ((L5.out.alloc P1 _).trans (LH.below (by rw [aC];omega) (fun i hi=>(ey HUS.out hi).1)));clear ho LH LL hs2';go_wp2;refine HR.out _ _ ⟨_,k+1,rfl,by omega,HBN.out,?_⟩ ?_
   ·rw [aR,HX.out]
    show iu _ _ _ (gp (e.locals.take (k)++[x]));rw [mX,HSN.out];exact HN.out
   ·simp [intOf]
    omega
  obtain⟨j,rfl⟩:∃j,k=j+1:=⟨k - 1,by omega⟩;obtain⟨y,hy⟩:∃y,e.locals[j]?=some y:=⟨_,aq (by omega)⟩;obtain⟨bb',off',heq,LD,LM⟩:=HCL.out j y hy;injection heq with heq;injection heq with e1 e2;subst e1 e2;have hb01:Below w0.heap.size w0 w1:=H0.out.1.trans ((RA.out.trans (L5.out.mono RA.out.size)).mono H0.out.1.size);have cy:=(hb01.cell LD).trans (LM 0 _ rfl);rw [aI,aY]at cy;clear LM LD hb01;have f1:decide ((0:Int) < (j:Int)+1)=true:=ay (by omega);obtain⟨rs,n,k',PO,Of,QN⟩:=xh (e.locals.take (j+1)) (by
   intro h;have:=cU List.length h;rw [aP]at this;simp only [aL]at this;omega)
  have hky:k'=y:=by
   rw [aR,hy]at Of;simpa using Of.symm
  subst hky;by_cases q1:k'=x;rotate_left
  ·have f2:(k'==x)=false:=dR q1
   have HSN:Hid (kB (gp (e.locals.take (j+1))) x=gp (e.locals.take (j+1))++[(1,x)]):=V (by rw [PO,qF,az q1];simp);clear q1 q0 PO Of QN hy;obtain⟨us,hus,O9,huq⟩:=HRN.out.rows;have OK:us.length <=32:=by
    have:=pC (e.locals.take (j+1));rw [aP]at this;omega
   have HUS:=V hus;have HUQ:=V huq;have HUL:=V O9;obtain⟨av,cv,rfl,-,M6⟩:=hus.slice;have P1:=L5.out.size;clear hus huq O9;go_wp2_with (first | (at_builtin;refine fb (w1.alloc (.cells #[.int .i64 x] 3)) rfl _ _ 331 rfl _ 24 (by kernel_rfl) wY rfl (by decide) (by decide) wA.heap.size (.slice av us.length cv) us rfl (HUS.out.below ((an _ _).alloc (ag _) _)) (.slice (some ⟨w1.heap.size,0,none⟩) 1 1) _ rfl rfl (by simp [rq,Value.oneCell']) (by rw [aC];rfl) (by omega) (by rw [aC];omega) ?_));intro v' w2 ho LH LL;have hs2':eB w1 (.slice av us.length cv) v':=fun i hi=>(LL i hi).imp id (fun g=>by rw [aC]at g;omega);have HN:=V (iu.new HRN.out HUS.out HUL.out ho LH hs2' P1 HUQ.out);have HBN:Hid (Below wA.heap.size wA w2):=V ((L5.out.alloc P1 _).trans (LH.below (by rw [aC];omega) (fun i hi=>(ey HUS.out hi).1)));clear ho LH LL hs2';go_wp2;refine HR.out _ _ ⟨_,j+1+1,rfl,by omega,HBN.out,?_⟩ ?_
   ·rw [aR,HX.out]
    show iu _ _ _ (gp (e.locals.take (j+1)++[x]));rw [mX,HSN.out];exact HN.out
   ·simp [intOf]
    omega
  ·subst q1
   have f2:(k'==k')=true:=eI rfl;have HSN:Hid (kB (gp (e.locals.take (j+1))) k'=rs++[(n+1,k')]):=V (by rw [PO,qF,aD rfl]);have hnn:n <=32:=by
    have:=(rz (e.locals.take (j+1)) (n,k') (by rw [PO];simp)).2;rw [aP]at this;simp only at this;omega
   have hrl:=HRN.out;rw [PO]at hrl;obtain⟨MG,ul,h2,h3,h4,h5,h6⟩:=hrl.last;obtain⟨g,cap,cur,rfl,Pm,NC,hg3,N3,MF⟩:=h3.open (by simp);have hlu:(MG++[ul]).length=MG.length+1:=by simp
   rw [hlu]at h3 h6 N3;rw [hlu];obtain⟨aul,cul,rfl,-,hcu⟩:=h4.slice;rw [bp]at h3 h4 h6;have c1:w1.cell? ⟨g,MG.length,none⟩=some (.slice aul n cul):=by
    have:=dS.cell rm h3 (i:=MG.length) (j:=0) (x:= .slice aul n cul) (u:= .slice aul n cul) (by simp) rfl
    rwa [aY,aI]at this
   have H2:=V h2;have H3:=V h3;have H4:=V h4;have H6:=V h6;have hus2:MG.length <=32:=by
    have:=pC (e.locals.take (j+1));rw [aP,PO]at this;simp at this;omega
   have P1:=L5.out.size;clear hrl h2 h3 h4 h5 h6 hg3 PO Of QN q0 hy hlu MF;go_wp2_with (first | (at_builtin;refine fb w1 rfl _ _ 26 rfl _ 8 (by kernel_rfl) jA rfl (by decide) (by decide) wA.heap.size (.slice aul n cul) (List.replicate n k') rfl H4.out k' _ rfl rfl (CH k') rfl (by simp only [bp];omega) P1 ?_));intro v' w2 ho LH LL;have hd:∀i,ez (.slice (some ⟨g,0,none⟩) (MG.length+1) cap) i ->¬ ez (.slice aul n cul) i:=fun i hi=>dS.ne H3.out H4.out (by decide) i hi;have H3':=V (dS.keeps H3.out LH hd);have c2:w2.cell? ⟨g,MG.length,none⟩=some (.slice aul n cul):=by
    have:=dS.cell rm H3'.out (i:=MG.length) (j:=0) (x:= .slice aul n cul) (u:= .slice aul n cul) (by simp) rfl
    rwa [aY,aI]at this
   have z2:=H3'.out.free MG.length;obtain⟨av,cv,rfl,-,M6⟩:=ho.slice;have HN:=V (iu.grow H2.out H3.out H4.out H6.out ho LH LL rfl);have HBN:Hid (Below wA.heap.size wA (w2.setCell ⟨g,MG.length,none⟩ (.slice av (List.replicate n k'++[k']).length cv))):=V ((L5.out.trans (LH.below P1 (fun i hi=>(ey H4.out hi).1))).setCell Pm _);rw [ah,bp,aB]at HN HBN;rw [ah,bp,aB];clear ho LH LL hd;go_wp2;refine HR.out _ _ ⟨_,j+1+1,rfl,by omega,HBN.out,?_⟩ ?_
   ·rw [aR,HX.out]
    show iu _ _ _ (gp (e.locals.take (j+1)++[k']));rw [mX,HSN.out];exact HN.out
   ·simp [intOf]
    omega
theorem uY {w:World} {Y:Nat} (h:eD w Y #[.int .u8 0] 5):eG w (.slice (some ⟨Y,0,none⟩) 1 1) [0]:=
 ⟨_,1,rfl,ag _,by simp [maxLen],fun i x hx=>⟨Y,0,rfl,by
  match i,hx with
  | 0,hx=>
   injection hx with hx;subst hx;exact h.cell 0⟩⟩
theorem Hq (e:iU) (b:Value) (xs:List UInt8) (w:World) (B:Nat) (Lu:ed w B b xs) (hn:xs.length <=100000000) (hB:B <=w.heap.size) (hm:e.may):
  Calls prog 182 #[b, .agg #[.string e.name, .int .i64 e.func]] w (gU xs (oM e) B b w):=by
 have l1:=nI hm.1;have hs0:=hm.1.2.1;have HM:=V hm;clear hm;have HW:=V ((Wr.refl Lu).alloc (.cells #[.string e.name, .int .i64 e.func] 75));have HA:=V (Aside.new Lu #[.string e.name, .int .i64 e.func] 75);clear Lu;go_enter func182,ntmps182;go_wp2_with fail;refine lC (fun w'=>w'.cell? ⟨w.heap.size,0,none⟩=some (.string e.name)/\w'.cell? ⟨w.heap.size,1,none⟩=some (.int .i64 e.func)) (ord [(0,true),(1,true),(2,true),(6,true),(7,true)] (.fork 3 4 (ord [(4,false),(5,false),(8,false),(9,true)] .nil) (ord [(3,false),(5,false),(8,false),(9,true)] .nil))) (by kernel_rfl) (by kernel_rfl) ⟨HA.out.cell 0,HA.out.cell 1⟩ ?_;dsimp only [ord];have HW:=V HW.out.drew;have HA:=V HA.out.drew;obtain⟨X,hX⟩:∃X,X=w.heap.size:=⟨_,rfl⟩;rw [<- hX]at HA⊢;clear hX;generalize(w.alloc (.cells #[.string e.name, .int .i64 e.func] 75)).drew=wa at HW HA⊢;iterate 5 (first | (apply ord_skip rfl rfl;simp only [Act.put,aW,bz,bC]) | (apply im rfl rfl rfl;·(rintro w' ⟨t0,t1⟩;go_wp2;exact⟨rfl,rfl,rfl⟩)))
 refine o7 rfl rfl rfl rfl ?_ ?_
 ·skip
  go_wp2_with fail;refine(mM b xs e.name B wa HW.out.1 (by omega) (by omega) (HW.out.base hB)).mono ?_;rintro e' w1 ⟨v1,rfl,ho,hk,hs⟩;have HA:=V (HA.out.next ⟨ho,hk,hs⟩);have HW:=V (HW.out.step ⟨ho,hk,hs⟩);clear ho hk hs;go_wp2_with fail;refine⟨⟨HA.out.cell 0,HA.out.cell 1⟩,?_⟩;refine fE rfl rfl ?_;go_wp2_with fail;refine⟨⟨(HA.out.alloc _).cell 0,(HA.out.alloc _).cell 1⟩,?_⟩;refine fE rfl rfl ?_;go_wp2_with (first | (at_builtin;refine eT w1 rfl _ _ rfl rfl B v1 _ rfl HW.out.1 (0:UInt8) _ rfl rfl (by first | omega | (simp only [ah];omega) | (simp only [ah,aB];omega)) (HW.out.base hB) ?_));intro v2 w2 ho hk hs;have HA:=V (HA.out.next ⟨ho,hk,hs⟩);have HW:=V (HW.out.step ⟨ho,hk,hs⟩);clear ho hk hs;go_wp2_with fail;refine⟨⟨HA.out.cell 0,HA.out.cell 1⟩,?_⟩;refine fE rfl rfl ?_;go_wp2_with fail;refine(mw e.func HM.out.2 v2 _ B w2 HW.out.1 (by simp only [ah,aB];omega) (HW.out.base hB)).mono ?_;rintro e' w9 ⟨v9,rfl,ho,hk,hs⟩;have HA:=V (HA.out.next ⟨ho,hk,hs⟩);have HW:=V (HW.out.step ⟨ho,hk,hs⟩);clear ho hk hs;go_wp2_with fail;refine⟨⟨HA.out.cell 0,HA.out.cell 1⟩,?_⟩;iterate 1 (first | (apply ord_skip rfl rfl;simp only [Act.put,aW,bz,bC]) | (apply im rfl rfl rfl;·(rintro w' ⟨t0,t1⟩;go_wp2;exact⟨rfl,rfl,rfl⟩)))
  refine ma ?_;refine aA ?_;go_wp2;go_ret;exact⟨_,rfl,by show Wr _ _ _ _ _ _;simpa [oM,sR] using HW.out⟩
 ·go_wp2_with fail
  refine⟨⟨(HA.out.alloc _).cell 0,(HA.out.alloc _).cell 1⟩,?_⟩;have HY:=V (Aside.new HW.out.1 #[.int .u8 0] 5);have HW:=V (HW.out.alloc (.cells #[.int .u8 0] 5));have HA:=V (HA.out.alloc (.cells #[.int .u8 0] 5));refine fE rfl rfl ?_;go_wp2_with fail;refine(mM b xs e.name B _ HW.out.1 (by omega) (by omega) (HW.out.base hB)).mono ?_;rintro e' w1 ⟨v1,rfl,ho,hk,hs⟩;have HY:=V (HY.out.next ⟨ho,hk,hs⟩);have HA:=V (HA.out.next ⟨ho,hk,hs⟩);have HW:=V (HW.out.step ⟨ho,hk,hs⟩);clear ho hk hs;go_wp2_with fail;refine⟨⟨HA.out.cell 0,HA.out.cell 1⟩,?_⟩;refine fE rfl rfl ?_;go_wp2_with (first | (at_builtin;refine iB w1 rfl _ _ rfl rfl B v1 _ rfl HW.out.1 _ [0] rfl (uY HY.out.1) (by first | omega | (simp only [ah,aB];omega) | (simp only [ah,aE,aL];omega)) (HW.out.base hB) ?_));intro v2 w2 ho hk hs;have HA:=V (HA.out.next ⟨ho,hk,hs⟩);have HW:=V (HW.out.step ⟨ho,hk,hs⟩);clear ho hk hs;go_wp2_with fail;refine⟨⟨HA.out.cell 0,HA.out.cell 1⟩,?_⟩;refine fE rfl rfl ?_;go_wp2_with fail;refine(mw e.func HM.out.2 v2 _ B w2 HW.out.1 (by simp only [ah,aB];omega) (HW.out.base hB)).mono ?_;rintro e' w9 ⟨v9,rfl,ho,hk,hs⟩;have HA:=V (HA.out.next ⟨ho,hk,hs⟩);have HW:=V (HW.out.step ⟨ho,hk,hs⟩);clear ho hk hs;go_wp2_with fail;refine⟨⟨HA.out.cell 0,HA.out.cell 1⟩,?_⟩;iterate 1 (first | (apply ord_skip rfl rfl;simp only [Act.put,aW,bz,bC]) | (apply im rfl rfl rfl;·(rintro w' ⟨t0,t1⟩;go_wp2;exact⟨rfl,rfl,rfl⟩)))
  refine ma ?_;refine aA ?_;go_wp2;go_ret;exact⟨_,rfl,by show Wr _ _ _ _ _ _;simpa [oM,sR] using HW.out⟩
theorem Hs (e:jD) (b:Value) (xs:List UInt8) (w:World) (B:Nat) (Lu:ed w B b xs) (hn:xs.length <=100000000) (hB:B <=w.heap.size) (hm:e.may):
  Calls prog 170 #[b, .agg #[.string e.mod, .string e.name, .int .i64 e.type]] w (gU xs (ow e) B b w):=by
 have l1:=nI hm.1;have l2:=nI hm.2.1;have hs0:=hm.1.2.1;have MQ:=hm.2.1.2.1;have HM:=V hm;clear hm;have HW:=V ((Wr.refl Lu).alloc (.cells #[.string e.mod, .string e.name, .int .i64 e.type] 71));have HA:=V (Aside.new Lu #[.string e.mod, .string e.name, .int .i64 e.type] 71);clear Lu;go_enter func170,ntmps170;go_wp2_with fail;refine lC (fun w'=>w'.cell? ⟨w.heap.size,0,none⟩=some (.string e.mod)/\w'.cell? ⟨w.heap.size,1,none⟩=some (.string e.name)/\w'.cell? ⟨w.heap.size,2,none⟩=some (.int .i64 e.type)) (ord [(0,true),(1,true),(2,true),(4,true),(5,true),(9,true),(10,true)] (.fork 3 7 (.fork 6 7 (ord [(7,false),(8,false),(11,false),(12,true)] .nil) (ord [(6,false),(8,false),(11,false),(12,true)] .nil)) (ord [(3,false),(6,false),(8,false),(11,false),(12,true)] .nil))) (by kernel_rfl) (by kernel_rfl) ⟨HA.out.cell 0,HA.out.cell 1,HA.out.cell 2⟩ ?_;dsimp only [ord];have HW:=V HW.out.drew;have HA:=V HA.out.drew;obtain⟨X,hX⟩:∃X,X=w.heap.size:=⟨_,rfl⟩;rw [<- hX]at HA⊢;clear hX;generalize(w.alloc (.cells #[.string e.mod, .string e.name, .int .i64 e.type] 71)).drew=wa at HW HA⊢;iterate 7 (first | (apply ord_skip rfl rfl;simp only [Act.put,aW,bz,bC]) | (apply im rfl rfl rfl;·(rintro w' ⟨t0,t1,t2⟩;go_wp2;exact⟨rfl,rfl,rfl⟩)))
 refine o7 rfl rfl rfl rfl ?_ ?_
 ·skip
  go_wp2_with fail;refine(mM b xs e.mod B wa HW.out.1 (by omega) (by omega) (HW.out.base hB)).mono ?_;rintro e' w1 ⟨v1,rfl,ho,hk,hs⟩;have HA:=V (HA.out.next ⟨ho,hk,hs⟩);have HW:=V (HW.out.step ⟨ho,hk,hs⟩);clear ho hk hs;go_wp2_with fail;refine⟨⟨HA.out.cell 0,HA.out.cell 1,HA.out.cell 2⟩,?_⟩;refine o7 rfl rfl rfl rfl ?_ ?_
  ·skip
   go_wp2_with fail;refine(mM v1 _ e.name B w1 HW.out.1 (by simp only [ah];omega) (by omega) (HW.out.base hB)).mono ?_;rintro e' w2 ⟨v2,rfl,ho,hk,hs⟩;have HA:=V (HA.out.next ⟨ho,hk,hs⟩);have HW:=V (HW.out.step ⟨ho,hk,hs⟩);clear ho hk hs;go_wp2_with fail;refine⟨⟨HA.out.cell 0,HA.out.cell 1,HA.out.cell 2⟩,?_⟩;refine fE rfl rfl ?_;go_wp2_with fail;refine⟨⟨(HA.out.alloc _).cell 0,(HA.out.alloc _).cell 1,(HA.out.alloc _).cell 2⟩,?_⟩;refine fE rfl rfl ?_;go_wp2_with (first | (at_builtin;refine eT w2 rfl _ _ rfl rfl B v2 _ rfl HW.out.1 (0:UInt8) _ rfl rfl (by first | omega | (simp only [ah];omega) | (simp only [ah,aB];omega)) (HW.out.base hB) ?_));intro v3 w3 ho hk hs;have HA:=V (HA.out.next ⟨ho,hk,hs⟩);have HW:=V (HW.out.step ⟨ho,hk,hs⟩);clear ho hk hs;go_wp2_with fail;refine⟨⟨HA.out.cell 0,HA.out.cell 1,HA.out.cell 2⟩,?_⟩;refine fE rfl rfl ?_;go_wp2_with fail;refine(mw e.type HM.out.2.2 v3 _ B w3 HW.out.1 (by simp only [ah,aB];omega) (HW.out.base hB)).mono ?_;rintro e' w9 ⟨v9,rfl,ho,hk,hs⟩;have HA:=V (HA.out.next ⟨ho,hk,hs⟩);have HW:=V (HW.out.step ⟨ho,hk,hs⟩);clear ho hk hs;go_wp2_with fail;refine⟨⟨HA.out.cell 0,HA.out.cell 1,HA.out.cell 2⟩,?_⟩;iterate 1 (first | (apply ord_skip rfl rfl;simp only [Act.put,aW,bz,bC]) | (apply im rfl rfl rfl;·(rintro w' ⟨t0,t1,t2⟩;go_wp2;exact⟨rfl,rfl,rfl⟩)))
   refine ma ?_;refine aA ?_;go_wp2;go_ret;exact⟨_,rfl,by show Wr _ _ _ _ _ _;simpa [ow,sR] using HW.out⟩
  ·go_wp2_with fail
   refine⟨⟨(HA.out.alloc _).cell 0,(HA.out.alloc _).cell 1,(HA.out.alloc _).cell 2⟩,?_⟩;have HY:=V (Aside.new HW.out.1 #[.int .u8 0] 5);have HW:=V (HW.out.alloc (.cells #[.int .u8 0] 5));have HA:=V (HA.out.alloc (.cells #[.int .u8 0] 5));refine fE rfl rfl ?_;go_wp2_with fail;refine(mM v1 _ e.name B _ HW.out.1 (by simp only [ah];omega) (by omega) (HW.out.base hB)).mono ?_;rintro e' w2 ⟨v2,rfl,ho,hk,hs⟩;have HY:=V (HY.out.next ⟨ho,hk,hs⟩);have HA:=V (HA.out.next ⟨ho,hk,hs⟩);have HW:=V (HW.out.step ⟨ho,hk,hs⟩);clear ho hk hs;go_wp2_with fail;refine⟨⟨HA.out.cell 0,HA.out.cell 1,HA.out.cell 2⟩,?_⟩;refine fE rfl rfl ?_;go_wp2_with (first | (at_builtin;refine iB w2 rfl _ _ rfl rfl B v2 _ rfl HW.out.1 _ [0] rfl (uY HY.out.1) (by first | omega | (simp only [ah,aB];omega) | (simp only [ah,aE,aL];omega)) (HW.out.base hB) ?_));intro v3 w3 ho hk hs;have HA:=V (HA.out.next ⟨ho,hk,hs⟩);have HW:=V (HW.out.step ⟨ho,hk,hs⟩);clear ho hk hs;go_wp2_with fail;refine⟨⟨HA.out.cell 0,HA.out.cell 1,HA.out.cell 2⟩,?_⟩;refine fE rfl rfl ?_;go_wp2_with fail;refine(mw e.type HM.out.2.2 v3 _ B w3 HW.out.1 (by simp only [ah,aB];omega) (HW.out.base hB)).mono ?_;rintro e' w9 ⟨v9,rfl,ho,hk,hs⟩;have HA:=V (HA.out.next ⟨ho,hk,hs⟩);have HW:=V (HW.out.step ⟨ho,hk,hs⟩);clear ho hk hs;go_wp2_with fail;refine⟨⟨HA.out.cell 0,HA.out.cell 1,HA.out.cell 2⟩,?_⟩;iterate 1 (first | (apply ord_skip rfl rfl;simp only [Act.put,aW,bz,bC]) | (apply im rfl rfl rfl;·(rintro w' ⟨t0,t1,t2⟩;go_wp2;exact⟨rfl,rfl,rfl⟩)))
   refine ma ?_;refine aA ?_;go_wp2;go_ret;exact⟨_,rfl,by show Wr _ _ _ _ _ _;simpa [ow,sR] using HW.out⟩
 ·go_wp2_with fail
  refine⟨⟨(HA.out.alloc _).cell 0,(HA.out.alloc _).cell 1,(HA.out.alloc _).cell 2⟩,?_⟩;have HY:=V (Aside.new HW.out.1 #[.int .u8 0] 5);have HW:=V (HW.out.alloc (.cells #[.int .u8 0] 5));have HA:=V (HA.out.alloc (.cells #[.int .u8 0] 5));refine fE rfl rfl ?_;go_wp2_with fail;refine(mM b xs e.mod B _ HW.out.1 (by omega) (by omega) (HW.out.base hB)).mono ?_;rintro e' w1 ⟨v1,rfl,ho,hk,hs⟩;have HY:=V (HY.out.next ⟨ho,hk,hs⟩);have HA:=V (HA.out.next ⟨ho,hk,hs⟩);have HW:=V (HW.out.step ⟨ho,hk,hs⟩);clear ho hk hs;go_wp2_with fail;refine⟨⟨HA.out.cell 0,HA.out.cell 1,HA.out.cell 2⟩,?_⟩;refine fE rfl rfl ?_;go_wp2_with fail;refine(mM v1 _ e.name B w1 HW.out.1 (by simp only [ah];omega) (by omega) (HW.out.base hB)).mono ?_;rintro e' w2 ⟨v2,rfl,ho,hk,hs⟩;have HY:=V (HY.out.next ⟨ho,hk,hs⟩);have HA:=V (HA.out.next ⟨ho,hk,hs⟩);have HW:=V (HW.out.step ⟨ho,hk,hs⟩);clear ho hk hs;go_wp2_with fail;refine⟨⟨HA.out.cell 0,HA.out.cell 1,HA.out.cell 2⟩,?_⟩;refine fE rfl rfl ?_;go_wp2_with (first | (at_builtin;refine iB w2 rfl _ _ rfl rfl B v2 _ rfl HW.out.1 _ [0] rfl (uY HY.out.1) (by first | omega | (simp only [ah,aB];omega) | (simp only [ah,aE,aL];omega)) (HW.out.base hB) ?_));intro v3 w3 ho hk hs;have HA:=V (HA.out.next ⟨ho,hk,hs⟩);have HW:=V (HW.out.step ⟨ho,hk,hs⟩);clear ho hk hs;go_wp2_with fail;refine⟨⟨HA.out.cell 0,HA.out.cell 1,HA.out.cell 2⟩,?_⟩;refine fE rfl rfl ?_;go_wp2_with fail;refine(mw e.type HM.out.2.2 v3 _ B w3 HW.out.1 (by simp only [ah,aB];omega) (HW.out.base hB)).mono ?_;rintro e' w9 ⟨v9,rfl,ho,hk,hs⟩;have HA:=V (HA.out.next ⟨ho,hk,hs⟩);have HW:=V (HW.out.step ⟨ho,hk,hs⟩);clear ho hk hs;go_wp2_with fail;refine⟨⟨HA.out.cell 0,HA.out.cell 1,HA.out.cell 2⟩,?_⟩;iterate 1 (first | (apply ord_skip rfl rfl;simp only [Act.put,aW,bz,bC]) | (apply im rfl rfl rfl;·(rintro w' ⟨t0,t1,t2⟩;go_wp2;exact⟨rfl,rfl,rfl⟩)))
  refine ma ?_;refine aA ?_;go_wp2;go_ret;exact⟨_,rfl,by show Wr _ _ _ _ _ _;simpa [ow,sR] using HW.out⟩
theorem ed.IH {w:World} {B:Nat} {v:Value} {xs:List UInt8} {x:UInt8} (h:ed w B v (xs++[x])):
  ∃g cap,v= .slice (some ⟨g,0,none⟩) (xs.length+1) cap/\xs.length+1 <=cap/\cap <=maxLen/\g < w.heap.size/\w.cell? ⟨g,xs.length,none⟩=some (bv x)/\w.frozen? ⟨g,xs.length,none⟩=false/\
   ∀y,ed (w.setCell ⟨g,xs.length,none⟩ (bv y)) B v (xs++[y]):=by
 have hb:=ed.gl h;obtain⟨hl,hv | ⟨g,cap,cur,hv,hB,hg,hn,hm,hs,ht⟩⟩:=h
 ·exact absurd hv.2 (by simp)
 ·have hlen:(xs++[x]).length=xs.length+1:=by simp
  rw [hlen]at hv hn;refine⟨g,cap,hv,hn,hm,(bZ.1 hg).1,?_,cX w g _ cur _ hg,fun y=>?_⟩
  ·obtain⟨a,LQ,he,_,_,hc⟩:=hb
   rw [hv]at he;injection he with e1 e2 e3;subst e1;obtain⟨b,off,Lw,LM⟩:=hc xs.length x (by simp);injection Lw with Lw;injection Lw with Lw LZ;subst Lw LZ;rw [bR]at LM;exact LM
  ·refine⟨by simp, .inr ⟨g,cap,cur.setIfInBounds xs.length (bv y),by rw [hv];simp,hB,heap_setCell_same w g _ cur _ _ hg,by simpa using hn,hm,by simpa using hs,?_⟩⟩
   rw [Array.toList_setIfInBounds,List.take_set];have ht2:cur.toList.take ((xs++[y]).length*1)=xs.map bv++[bv x]:=by
    rw [show(xs++[y]).length*1=(xs++[x]).length*1 by simp,ht];simp
   rw [ht2,List.set_append_right _ _ (by simp)];simp
theorem IK (e:jz) (b:Value) (xs:List UInt8) (w:World) (B:Nat) (Lu:ed w B b xs) (hn:xs.length <=100000000) (hB:B <=w.heap.size) (hm:e.init.may) (ho:e.init.ok):
  Calls prog 179 #[b, .agg #[.bool e.isVar, .int .i64 e.init.kind, .int .i64 e.init.n]] w (gU xs (kQ e) B b w):=by
 have HM:=V hm;have HO:=V ho;obtain⟨mu,k,n⟩:=e;simp only at HM HO⊢;clear hm ho;have HW:=V ((Wr.refl Lu).alloc (.cells #[.bool mu, .int .i64 k, .int .i64 n] 73));have HA:=V (Aside.new Lu #[.bool mu, .int .i64 k, .int .i64 n] 73);clear Lu;have c1:(w.alloc (.cells #[.bool mu, .int .i64 k, .int .i64 n] 73)).cell? ⟨w.heap.size,1,none⟩=some (.int .i64 k):=HA.out.cell 1;go_enter func179,ntmps179;go_wp2_with fail;refine(mY b xs k B _ HW.out.1 (by omega) (HW.out.base hB)).mono ?_;rintro e' w1 ⟨v1,rfl,ho,hk,hs⟩;have HA:=V (HA.out.next ⟨ho,hk,hs⟩);have HW:=V (HW.out.step ⟨ho,hk,hs⟩);clear ho hk hs c1;go_wp2_with (first | (at_builtin;refine eT w1 rfl _ _ rfl rfl B v1 _ rfl HW.out.1 (0:UInt8) _ rfl rfl (by simp only [ah,iS,aE,aL];omega) (HW.out.base hB) ?_));intro v2 w2 ho hk hs;have HA:=V (HA.out.next ⟨ho,hk,hs⟩);have HW:=V (HW.out.step ⟨ho,hk,hs⟩);clear ho hk hs;have c0:w2.cell? ⟨w.heap.size,0,none⟩=some (.bool mu):=HA.out.cell 0;obtain⟨L,hL⟩:∃L,xs++iS k=L:=⟨_,rfl⟩;have hLn:L.length <=100000001:=by rw [<- hL,ah];simp only [iS,aE,aL];omega
 have HG:Hid (xs++kQ ⟨mu,⟨k,n⟩⟩=L++((if mu=true then 1 else 0)::lR ⟨k,n⟩)):=V (by rw [<- hL,kQ,aK]);have HL:=V (show Wr w b B w2 v2 (L++[0])by rw [<- hL,aK];exact HW.out);clear hL;obtain⟨g,cap,rfl,L7,NG,hg,cl,fz,O8⟩:=HL.out.1.IH;unfold maxLen at NG;have HSET:=V O8;clear O8;cases mu with
 | false=>
  have c1:w2.cell? ⟨w.heap.size,1,none⟩=some (.int .i64 k):=HA.out.cell 1;have c2:w2.cell? ⟨w.heap.size,2,none⟩=some (.int .i64 n):=HA.out.cell 2;go_wp2_with fail;refine(nN (.slice (some ⟨g,0,none⟩) (L.length+1) cap) _ ⟨k,n⟩ B w2 HL.out.1 (by simp only [ah,aB];omega) (HL.out.base hB) HM.out HO.out).mono ?_;rintro e' w9 ⟨v9,rfl,ho,hk,hs⟩;have HL9:=V (HL.out.step ⟨ho,hk,hs⟩);clear ho hk hs;go_wp2;go_ret;exact⟨_,rfl,by rw [HG.out];show Wr _ _ _ _ _ _;simpa using HL9.out⟩
 | true=>
  have ho:=HSET.out 1;have hk:dU (ez (.slice (some ⟨g,0,none⟩) (L.length+1) cap)) w2 (w2.setCell ⟨g,L.length,none⟩ (.int .u8 1)):=(show dU (fun k=>k=g) w2 (w2.setCell ⟨g,L.length,none⟩ (.int .u8 1))from⟨rfl,rfl,rfl,by simp,fun k _ hk=>cH w2 ⟨g,L.length,none⟩ (.int .u8 1) k hk⟩).mono (fun i hi=>by rw [hi];rfl);have hs:=eB.refl w2 (.slice (some ⟨g,0,none⟩) (L.length+1) cap);have HA2:=V (HA.out.next ⟨ho,hk,hs⟩);have QG:=V (HL.out.step ⟨ho,hk,hs⟩);have c1:(w2.setCell ⟨g,L.length,none⟩ (.int .u8 1)).cell? ⟨w.heap.size,1,none⟩=some (.int .i64 k):=HA2.out.cell 1;have c2:(w2.setCell ⟨g,L.length,none⟩ (.int .u8 1)).cell? ⟨w.heap.size,2,none⟩=some (.int .i64 n):=HA2.out.cell 2;clear ho hk hs;go_wp2_with fail;refine(nN (.slice (some ⟨g,0,none⟩) (L.length+1) cap) _ ⟨k,n⟩ B _ QG.out.1 (by simp only [ah,aB];omega) (QG.out.base hB) HM.out HO.out).mono ?_;rintro e' w9 ⟨v9,rfl,ho,hk,hs⟩;have HL9:=V (QG.out.step ⟨ho,hk,hs⟩);clear ho hk hs;go_wp2;go_ret;exact⟨_,rfl,by rw [HG.out];show Wr _ _ _ _ _ _;simpa using HL9.out⟩
theorem Hm (p:jD ->Bool) (v:Value) (l:List jD) (w:World) (hl:ee 3 qv w v l) (Ly:Nat) (cs:Array Value)
  (hE:∀args w,(callFunc Ly args).run prog w= .ok (.enter Ly args) w)
  (hp:∀e∈l,∀w',Below w.heap.size w w' ->Calls prog Ly (#[.agg #[.string e.mod, .string e.name, .int .i64 e.type]]++cs) w' (ew (p e) w')):
  Calls prog 111 #[v, .func (.func Ly) #[] cs] w (jM p l w):=by
 have HP:=V hp;have HI:=V hl;obtain⟨a,cap,rfl,h1,h2,_⟩:=id hl;unfold maxLen at h2;clear hl hp;go_enter func111,ntmps111;go_wp2_with fail;refine eC (fun a' w'=>∃(k:Nat),a'=fr (.slice a l.length cap:: .func (.func Ly) #[] cs::gs a' 2 5 (.int .i64 l.length:: .int .i64 k::gs a' 9 10 []))/\pR p l w w' k) (fun a' _=>(l.length - (intOf (a'.tmps.getD 8 undef)).toNat)) ?_ ?_
 ·exact⟨0,rfl,by omega,fun i hi=>by omega,an _ _⟩
 ·skip
  rintro R a' w1 ⟨k,Lv,hJ⟩ HR;dsimp only [fr,gs]at Lv;generalize slot a'=f at Lv;subst Lv;obtain⟨hk,hm,hb⟩:=hJ;have Ma:=V hm;clear hm;by_cases Mi:k < l.length;rotate_left
  ·obtain rfl:k=l.length:=by omega
   go_wp2;go_ret;exact⟨by rw [gJ Ma.out];rfl,hb⟩
  obtain⟨e,he⟩:∃e,l[k]?=some e:=⟨_,aq Mi⟩;obtain⟨a',LQ,hv,_,_,Lt⟩:=HI.out.below (hb.mono (ag _));injection hv with e1 e2 e3;subst e1 e3;obtain⟨b,off,rfl,LD,hc⟩:=Lt k e he;have c0:=hc 0 _ rfl;have c1:=hc 1 _ rfl;have c2:=hc 2 _ rfl;rw [aI]at c0;have LC:=HP.out e (aN he) w1 hb;have HE:=V he;clear Lt e2 he hc;cases hq:p e
  all_goals
   rw [hq]at LC;have HQ:=V hq;clear hq;go_wp2_with fail;refine LC.mono ?_;rintro x w2 ⟨rfl,Lw⟩;replace hb:=dT hb Lw;clear LC Lw c0 c1 c2;go_wp2_with fail
  ·refine HR.out _ _ ⟨k+1,rfl,by omega,?_,hb⟩ ?_
   ·intro i hi d hd
    rcases bx i k with h | h
    ·exact Ma.out i h d hd
    ·obtain rfl:i=k:=by omega
     rw [HE.out]at hd;injection hd with hd;rw [<- hd];exact HQ.out
   ·simp [intOf]
    omega
  ·go_ret
   exact⟨by rw [ic HE.out HQ.out Ma.out];rfl,hb⟩
theorem Aw (p:jD ->Bool) (v:Value) (l:List jD) (w:World) (hl:ee 3 qv w v l) (Ly:Nat) (cs:Array Value)
  (hE:∀args w,(callFunc Ly args).run prog w= .ok (.enter Ly args) w)
  (hp:∀e∈l,∀w',Below w.heap.size w w' ->Calls prog Ly (#[.agg #[.string e.mod, .string e.name, .int .i64 e.type]]++cs) w' (ew (p e) w')):
  Calls prog 73 #[v, .func (.func Ly) #[] cs] w (ew (l.any p) w):=by
 go_enter func73,ntmps73;go_wp2_with fail;refine(Hm p v l _ hl Ly cs hE hp).mono ?_;rintro x w2 ⟨rfl,hb⟩;clear hE;go_wp2;go_ret;exact⟨by rw [<- ir];rfl,hb⟩
theorem Ew (b:Bool) (s1 s2:ByteArray) (n:Int) (Ly:Nat) (cs:Array Value) (X:Nat) (w:World)
  (hE:∀args w,(callFunc Ly args).run prog w= .ok (.enter Ly args) w) (hX:w.cell? ⟨X,0,none⟩=some (.func (.func Ly) #[] cs))
  (hp:∀w',Below w.heap.size w w' ->Calls prog Ly (#[.agg #[.string s1, .string s2, .int .i64 n]]++cs) w' (ew b w')):
  Calls prog 259 #[.agg #[.string s1, .string s2, .int .i64 n], .pointer (some ⟨X,0,none⟩)] w (ew (!b) w):=by
 have LD:=aO w _ hX;have HP:=V hp;clear hp;go_enter func259,ntmps259;go_wp2_with fail;refine(HP.out _ ((an _ _).alloc (ag _) _)).mono ?_;rintro x w2 ⟨rfl,hb⟩;clear hE hX;go_wp2;go_ret;exact⟨rfl,((an _ _).alloc (ag _) _).trans (hb.mono (by simp))⟩
theorem Gz (p:jD ->Bool) (v:Value) (l:List jD) (w:World) (hl:ee 3 qv w v l) (Ly:Nat) (ff:Int)
  (hE:∀args w,(callFunc Ly args).run prog w= .ok (.enter Ly args) w)
  (hp:∀e∈l,∀w',Below w.heap.size w w' ->Calls prog Ly #[.agg #[.string e.mod, .string e.name, .int .i64 e.type]] w' (ew (p e) w')):
  Calls prog 152 #[v, .int .i64 ff, .func (.func Ly) #[] #[]] w (ew (decide ((l.length:Int) <=ff)&&l.all p) w):=by
 have HP:=V hp;obtain⟨a,cap,rfl,h1,h2⟩:∃a cap,v= .slice a l.length cap/\l.length <=cap/\cap <=9223372036854775807:=fk hl;have HL:=V hl;clear hp hl;by_cases q:(l.length:Int) <=ff
 ·have f:decide ((l.length:Int) <=ff)=true:=ay q
  go_enter func152,ntmps152;go_wp2_with fail;refine bY (Aw (fun e=> !p e) _ l _ (HL.out.below ((an _ _).alloc (ag _) _)) 259 #[.pointer (some ⟨w.heap.size,0,none⟩)] (fun args w=>by rfl) ?_) ?_
  ·intro e he w' hw'
   obtain⟨hX,hw⟩:=boxed hw';exact Ew (p e) _ _ _ Ly #[] _ w' hE hX (fun w2 h2=>by simpa using HP.out e he w2 (hw.trans (h2.mono hw.size)))
  rintro x w2 ⟨rfl,hb⟩;clear hE;have HF:=V f;clear f;have f:decide ((l.length:Int) <=ff)=true:=HF.out;go_wp2;go_ret;refine⟨?_,((an _ _).alloc (ag _) _).trans (hb.mono (by simp))⟩;have e1:l.all p= !(l.any fun e=> !p e):=by rw [bM];simp
  rw [f,e1,cd];rfl
 ·have f:decide ((l.length:Int) <=ff)=false:=aw q
  go_enter func152,ntmps152;go_wp2;go_ret;exact⟨by first | rfl | (rw [f];rfl),(an _ _).alloc (ag _) _⟩
theorem Ho (p:jz ->Bool) (v:Value) (l:List jz) (w:World) (hl:ee 3 qB w v l) (Ly:Nat) (cs:Array Value)
  (hE:∀args w,(callFunc Ly args).run prog w= .ok (.enter Ly args) w)
  (hp:∀e∈l,∀w',Below w.heap.size w w' ->Calls prog Ly (#[.agg #[.bool e.isVar, .int .i64 e.init.kind, .int .i64 e.init.n]]++cs) w' (ew (p e) w')):
  Calls prog 306 #[v, .func (.func Ly) #[] cs] w (jM p l w):=by
 have HP:=V hp;have HI:=V hl;obtain⟨a,cap,rfl,h1,h2,_⟩:=id hl;unfold maxLen at h2;clear hl hp;go_enter func306,ntmps306;go_wp2_with fail;refine eC (fun a' w'=>∃(k:Nat),a'=fr (.slice a l.length cap:: .func (.func Ly) #[] cs::gs a' 2 5 (.int .i64 l.length:: .int .i64 k::gs a' 9 10 []))/\pR p l w w' k) (fun a' _=>(l.length - (intOf (a'.tmps.getD 8 undef)).toNat)) ?_ ?_
 ·exact⟨0,rfl,by omega,fun i hi=>by omega,an _ _⟩
 ·skip
  rintro R a' w1 ⟨k,Lv,hJ⟩ HR;dsimp only [fr,gs]at Lv;generalize slot a'=f at Lv;subst Lv;obtain⟨hk,hm,hb⟩:=hJ;have Ma:=V hm;clear hm;by_cases Mi:k < l.length;rotate_left
  ·obtain rfl:k=l.length:=by omega
   go_wp2;go_ret;exact⟨by rw [gJ Ma.out];rfl,hb⟩
  obtain⟨e,he⟩:∃e,l[k]?=some e:=⟨_,aq Mi⟩;obtain⟨a',LQ,hv,_,_,Lt⟩:=HI.out.below (hb.mono (ag _));injection hv with e1 e2 e3;subst e1 e3;obtain⟨b,off,rfl,LD,hc⟩:=Lt k e he;have c0:=hc 0 _ rfl;have c1:=hc 1 _ rfl;have c2:=hc 2 _ rfl;rw [aI]at c0;have LC:=HP.out e (aN he) w1 hb;have HE:=V he;clear Lt e2 he hc;cases hq:p e
  all_goals
   rw [hq]at LC;have HQ:=V hq;clear hq;go_wp2_with fail;refine LC.mono ?_;rintro x w2 ⟨rfl,Lw⟩;replace hb:=dT hb Lw;clear LC Lw c0 c1 c2;go_wp2_with fail
  ·refine HR.out _ _ ⟨k+1,rfl,by omega,?_,hb⟩ ?_
   ·intro i hi d hd
    rcases bx i k with h | h
    ·exact Ma.out i h d hd
    ·obtain rfl:i=k:=by omega
     rw [HE.out]at hd;injection hd with hd;rw [<- hd];exact HQ.out
   ·simp [intOf]
    omega
  ·go_ret
   exact⟨by rw [ic HE.out HQ.out Ma.out];rfl,hb⟩
theorem Fy (p:jz ->Bool) (v:Value) (l:List jz) (w:World) (hl:ee 3 qB w v l) (Ly:Nat) (cs:Array Value)
  (hE:∀args w,(callFunc Ly args).run prog w= .ok (.enter Ly args) w)
  (hp:∀e∈l,∀w',Below w.heap.size w w' ->Calls prog Ly (#[.agg #[.bool e.isVar, .int .i64 e.init.kind, .int .i64 e.init.n]]++cs) w' (ew (p e) w')):
  Calls prog 262 #[v, .func (.func Ly) #[] cs] w (ew (l.any p) w):=by
 go_enter func262,ntmps262;go_wp2_with fail;refine(Ho p v l _ hl Ly cs hE hp).mono ?_;rintro x w2 ⟨rfl,hb⟩;clear hE;go_wp2;go_ret;exact⟨by rw [<- ir];rfl,hb⟩
theorem GG (b:Bool) (bb:Bool) (n1 n2:Int) (Ly:Nat) (cs:Array Value) (X:Nat) (w:World)
  (hE:∀args w,(callFunc Ly args).run prog w= .ok (.enter Ly args) w) (hX:w.cell? ⟨X,0,none⟩=some (.func (.func Ly) #[] cs))
  (hp:∀w',Below w.heap.size w w' ->Calls prog Ly (#[.agg #[.bool bb, .int .i64 n1, .int .i64 n2]]++cs) w' (ew b w')):
  Calls prog 263 #[.agg #[.bool bb, .int .i64 n1, .int .i64 n2], .pointer (some ⟨X,0,none⟩)] w (ew (!b) w):=by
 have LD:=aO w _ hX;have HP:=V hp;clear hp;go_enter func263,ntmps263;go_wp2_with fail;refine(HP.out _ ((an _ _).alloc (ag _) _)).mono ?_;rintro x w2 ⟨rfl,hb⟩;clear hE hX;go_wp2;go_ret;exact⟨rfl,((an _ _).alloc (ag _) _).trans (hb.mono (by simp))⟩
theorem Ex (p:jz ->Bool) (v:Value) (l:List jz) (w:World) (hl:ee 3 qB w v l) (Ly:Nat) (ff:Int)
  (hE:∀args w,(callFunc Ly args).run prog w= .ok (.enter Ly args) w)
  (hp:∀e∈l,∀w',Below w.heap.size w w' ->Calls prog Ly #[.agg #[.bool e.isVar, .int .i64 e.init.kind, .int .i64 e.init.n]] w' (ew (p e) w')):
  Calls prog 156 #[v, .int .i64 ff, .func (.func Ly) #[] #[]] w (ew (decide ((l.length:Int) <=ff)&&l.all p) w):=by
 have HP:=V hp;obtain⟨a,cap,rfl,h1,h2⟩:∃a cap,v= .slice a l.length cap/\l.length <=cap/\cap <=9223372036854775807:=fk hl;have HL:=V hl;clear hp hl;by_cases q:(l.length:Int) <=ff
 ·have f:decide ((l.length:Int) <=ff)=true:=ay q
  go_enter func156,ntmps156;go_wp2_with fail;refine bY (Fy (fun e=> !p e) _ l _ (HL.out.below ((an _ _).alloc (ag _) _)) 263 #[.pointer (some ⟨w.heap.size,0,none⟩)] (fun args w=>by rfl) ?_) ?_
  ·intro e he w' hw'
   obtain⟨hX,hw⟩:=boxed hw';exact GG (p e) _ _ _ Ly #[] _ w' hE hX (fun w2 h2=>by simpa using HP.out e he w2 (hw.trans (h2.mono hw.size)))
  rintro x w2 ⟨rfl,hb⟩;clear hE;have HF:=V f;clear f;have f:decide ((l.length:Int) <=ff)=true:=HF.out;go_wp2;go_ret;refine⟨?_,((an _ _).alloc (ag _) _).trans (hb.mono (by simp))⟩;have e1:l.all p= !(l.any fun e=> !p e):=by rw [bM];simp
  rw [f,e1,cd];rfl
 ·have f:decide ((l.length:Int) <=ff)=false:=aw q
  go_enter func156,ntmps156;go_wp2;go_ret;exact⟨by first | rfl | (rw [f];rfl),(an _ _).alloc (ag _) _⟩
theorem Ih (p:iU ->Bool) (v:Value) (l:List iU) (w:World) (hl:ee 2 oZ w v l) (Ly:Nat) (cs:Array Value)
  (hE:∀args w,(callFunc Ly args).run prog w= .ok (.enter Ly args) w)
  (hp:∀e∈l,∀w',Below w.heap.size w w' ->Calls prog Ly (#[.agg #[.string e.name, .int .i64 e.func]]++cs) w' (ew (p e) w')):
  Calls prog 101 #[v, .func (.func Ly) #[] cs] w (jM p l w):=by
 have HP:=V hp;have HI:=V hl;obtain⟨a,cap,rfl,h1,h2,_⟩:=id hl;unfold maxLen at h2;clear hl hp;go_enter func101,ntmps101;go_wp2_with fail;refine eC (fun a' w'=>∃(k:Nat),a'=fr (.slice a l.length cap:: .func (.func Ly) #[] cs::gs a' 2 5 (.int .i64 l.length:: .int .i64 k::gs a' 9 10 []))/\pR p l w w' k) (fun a' _=>(l.length - (intOf (a'.tmps.getD 8 undef)).toNat)) ?_ ?_
 ·exact⟨0,rfl,by omega,fun i hi=>by omega,an _ _⟩
 ·skip
  rintro R a' w1 ⟨k,Lv,hJ⟩ HR;dsimp only [fr,gs]at Lv;generalize slot a'=f at Lv;subst Lv;obtain⟨hk,hm,hb⟩:=hJ;have Ma:=V hm;clear hm;by_cases Mi:k < l.length;rotate_left
  ·obtain rfl:k=l.length:=by omega
   go_wp2;go_ret;exact⟨by rw [gJ Ma.out];rfl,hb⟩
  obtain⟨e,he⟩:∃e,l[k]?=some e:=⟨_,aq Mi⟩;obtain⟨a',LQ,hv,_,_,Lt⟩:=HI.out.below (hb.mono (ag _));injection hv with e1 e2 e3;subst e1 e3;obtain⟨b,off,rfl,LD,hc⟩:=Lt k e he;have c0:=hc 0 _ rfl;have c1:=hc 1 _ rfl;rw [aI]at c0;have LC:=HP.out e (aN he) w1 hb;have HE:=V he;clear Lt e2 he hc;cases hq:p e
  all_goals
   rw [hq]at LC;have HQ:=V hq;clear hq;go_wp2_with fail;refine LC.mono ?_;rintro x w2 ⟨rfl,Lw⟩;replace hb:=dT hb Lw;clear LC Lw c0 c1;go_wp2_with fail
  ·refine HR.out _ _ ⟨k+1,rfl,by omega,?_,hb⟩ ?_
   ·intro i hi d hd
    rcases bx i k with h | h
    ·exact Ma.out i h d hd
    ·obtain rfl:i=k:=by omega
     rw [HE.out]at hd;injection hd with hd;rw [<- hd];exact HQ.out
   ·simp [intOf]
    omega
  ·go_ret
   exact⟨by rw [ic HE.out HQ.out Ma.out];rfl,hb⟩
theorem zo (p:iU ->Bool) (v:Value) (l:List iU) (w:World) (hl:ee 2 oZ w v l) (Ly:Nat) (cs:Array Value)
  (hE:∀args w,(callFunc Ly args).run prog w= .ok (.enter Ly args) w)
  (hp:∀e∈l,∀w',Below w.heap.size w w' ->Calls prog Ly (#[.agg #[.string e.name, .int .i64 e.func]]++cs) w' (ew (p e) w')):
  Calls prog 70 #[v, .func (.func Ly) #[] cs] w (ew (l.any p) w):=by
 go_enter func70,ntmps70;go_wp2_with fail;refine(Ih p v l _ hl Ly cs hE hp).mono ?_;rintro x w2 ⟨rfl,hb⟩;clear hE;go_wp2;go_ret;exact⟨by rw [<- ir];rfl,hb⟩
theorem Fc (b:Bool) (s1:ByteArray) (n:Int) (Ly:Nat) (cs:Array Value) (X:Nat) (w:World)
  (hE:∀args w,(callFunc Ly args).run prog w= .ok (.enter Ly args) w) (hX:w.cell? ⟨X,0,none⟩=some (.func (.func Ly) #[] cs))
  (hp:∀w',Below w.heap.size w w' ->Calls prog Ly (#[.agg #[.string s1, .int .i64 n]]++cs) w' (ew b w')):
  Calls prog 264 #[.agg #[.string s1, .int .i64 n], .pointer (some ⟨X,0,none⟩)] w (ew (!b) w):=by
 have LD:=aO w _ hX;have HP:=V hp;clear hp;go_enter func264,ntmps264;go_wp2_with fail;refine(HP.out _ ((an _ _).alloc (ag _) _)).mono ?_;rintro x w2 ⟨rfl,hb⟩;clear hE hX;go_wp2;go_ret;exact⟨rfl,((an _ _).alloc (ag _) _).trans (hb.mono (by simp))⟩
theorem GR (p:iU ->Bool) (v:Value) (l:List iU) (w:World) (hl:ee 2 oZ w v l) (Ly:Nat) (ff:Int)
  (hE:∀args w,(callFunc Ly args).run prog w= .ok (.enter Ly args) w)
  (hp:∀e∈l,∀w',Below w.heap.size w w' ->Calls prog Ly #[.agg #[.string e.name, .int .i64 e.func]] w' (ew (p e) w')):
  Calls prog 158 #[v, .int .i64 ff, .func (.func Ly) #[] #[]] w (ew (decide ((l.length:Int) <=ff)&&l.all p) w):=by
 have HP:=V hp;obtain⟨a,cap,rfl,h1,h2⟩:∃a cap,v= .slice a l.length cap/\l.length <=cap/\cap <=9223372036854775807:=fk hl;have HL:=V hl;clear hp hl;by_cases q:(l.length:Int) <=ff
 ·have f:decide ((l.length:Int) <=ff)=true:=ay q
  go_enter func158,ntmps158;go_wp2_with fail;refine bY (zo (fun e=> !p e) _ l _ (HL.out.below ((an _ _).alloc (ag _) _)) 264 #[.pointer (some ⟨w.heap.size,0,none⟩)] (fun args w=>by rfl) ?_) ?_
  ·intro e he w' hw'
   obtain⟨hX,hw⟩:=boxed hw';exact Fc (p e) _ _ Ly #[] _ w' hE hX (fun w2 h2=>by simpa using HP.out e he w2 (hw.trans (h2.mono hw.size)))
  rintro x w2 ⟨rfl,hb⟩;clear hE;have HF:=V f;clear f;have f:decide ((l.length:Int) <=ff)=true:=HF.out;go_wp2;go_ret;refine⟨?_,((an _ _).alloc (ag _) _).trans (hb.mono (by simp))⟩;have e1:l.all p= !(l.any fun e=> !p e):=by rw [bM];simp
  rw [f,e1,cd];rfl
 ·have f:decide ((l.length:Int) <=ff)=false:=aw q
  go_enter func158,ntmps158;go_wp2;go_ret;exact⟨by first | rfl | (rw [f];rfl),(an _ _).alloc (ag _) _⟩
theorem Hv (p:gw ->Bool) (v:Value) (l:List gw) (w:World) (hl:ef 2 oV gG w v l) (Ly:Nat) (cs:Array Value)
  (hE:∀args w,(callFunc Ly args).run prog w= .ok (.enter Ly args) w)
  (hp:∀e∈l,∀u w',Below w.heap.size w w' ->gG w' e u ->Calls prog Ly (#[.agg #[u.1,u.2]]++cs) w' (ew (p e) w')):
  Calls prog 303 #[v, .func (.func Ly) #[] cs] w (jM p l w):=by
 have HP:=V hp;have HI:=V hl;obtain⟨a,cap,rfl,h1,h2⟩:=ef.slice hl;clear hl hp;go_enter func303,ntmps303;go_wp2_with fail;refine eC (fun a' w'=>∃(k:Nat),a'=fr (.slice a l.length cap:: .func (.func Ly) #[] cs::gs a' 2 5 (.int .i64 l.length:: .int .i64 k::gs a' 9 10 []))/\pR p l w w' k) (fun a' _=>(l.length - (intOf (a'.tmps.getD 8 undef)).toNat)) ?_ ?_
 ·exact⟨0,rfl,by omega,fun i hi=>by omega,an _ _⟩
 ·skip
  rintro R a' w1 ⟨k,Lv,hJ⟩ HR;dsimp only [fr,gs]at Lv;generalize slot a'=f at Lv;subst Lv;obtain⟨hk,hm,hb⟩:=hJ;have Ma:=V hm;clear hm;by_cases Mi:k < l.length;rotate_left
  ·obtain rfl:k=l.length:=by omega
   go_wp2;go_ret;exact⟨by rw [gJ Ma.out];rfl,hb⟩
  obtain⟨e,he⟩:∃e,l[k]?=some e:=⟨_,aq Mi⟩;obtain⟨b,off,u,rfl,LD,hc,hu⟩:=(ef.below HI.out (hb.mono (ag _)) (fun _ _ h=>h.below (hb.mono (ag _)))).get he;have LC:=HP.out e (aN he) u w1 hb hu;obtain⟨u1,u2⟩:=u;obtain⟨⟨⟨a1,LO,M5,-,-,-⟩,⟨a2,LA,M9,-,-,-⟩⟩,-⟩:=id hu;simp only at M5 M9;subst M5 M9;have c0:=hc 0 _ rfl;have c1:=hc 1 _ rfl;rw [aI]at c0;have HE:=V he;clear he hc hu;cases hq:p e
  all_goals
   rw [hq]at LC;have HQ:=V hq;clear hq;go_wp2_with fail;refine LC.mono ?_;rintro x w2 ⟨rfl,Lw⟩;replace hb:=dT hb Lw;clear LC Lw c0 c1;go_wp2_with fail
  ·refine HR.out _ _ ⟨k+1,rfl,by omega,?_,hb⟩ ?_
   ·intro i hi d hd
    rcases bx i k with h | h
    ·exact Ma.out i h d hd
    ·obtain rfl:i=k:=by omega
     rw [HE.out]at hd;injection hd with hd;rw [<- hd];exact HQ.out
   ·simp [intOf]
    omega
  ·go_ret
   exact⟨by rw [ic HE.out HQ.out Ma.out];rfl,hb⟩
theorem Gf (p:gw ->Bool) (v:Value) (l:List gw) (w:World) (hl:ef 2 oV gG w v l) (Ly:Nat) (cs:Array Value)
  (hE:∀args w,(callFunc Ly args).run prog w= .ok (.enter Ly args) w)
  (hp:∀e∈l,∀u w',Below w.heap.size w w' ->gG w' e u ->Calls prog Ly (#[.agg #[u.1,u.2]]++cs) w' (ew (p e) w')):
  Calls prog 257 #[v, .func (.func Ly) #[] cs] w (ew (l.any p) w):=by
 go_enter func257,ntmps257;go_wp2_with fail;refine(Hv p v l _ hl Ly cs hE hp).mono ?_;rintro x w2 ⟨rfl,hb⟩;clear hE;go_wp2;go_ret;exact⟨by rw [<- ir];rfl,hb⟩
theorem Ep (b:Bool) (a1 a2:Option Addr) (n1 n2 c1 c2:Nat) (Ly:Nat) (cs:Array Value) (X:Nat) (w:World)
  (hE:∀args w,(callFunc Ly args).run prog w= .ok (.enter Ly args) w) (hX:w.cell? ⟨X,0,none⟩=some (.func (.func Ly) #[] cs))
  (hp:∀w',Below w.heap.size w w' ->Calls prog Ly (#[.agg #[.slice a1 n1 c1, .slice a2 n2 c2]]++cs) w' (ew b w')):
  Calls prog 258 #[.agg #[.slice a1 n1 c1, .slice a2 n2 c2], .pointer (some ⟨X,0,none⟩)] w (ew (!b) w):=by
 have LD:=aO w _ hX;have HP:=V hp;clear hp;go_enter func258,ntmps258;go_wp2_with fail;refine(HP.out _ ((an _ _).alloc (ag _) _)).mono ?_;rintro x w2 ⟨rfl,hb⟩;clear hE hX;go_wp2;go_ret;exact⟨rfl,((an _ _).alloc (ag _) _).trans (hb.mono (by simp))⟩
theorem FV (p:gw ->Bool) (v:Value) (l:List gw) (w:World) (hl:ef 2 oV gG w v l) (Ly:Nat) (ff:Int)
  (hE:∀args w,(callFunc Ly args).run prog w= .ok (.enter Ly args) w)
  (hp:∀e∈l,∀u w',Below w.heap.size w w' ->gG w' e u ->Calls prog Ly #[.agg #[u.1,u.2]] w' (ew (p e) w')):
  Calls prog 150 #[v, .int .i64 ff, .func (.func Ly) #[] #[]] w (ew (decide ((l.length:Int) <=ff)&&l.all p) w):=by
 have HP:=V hp;obtain⟨a,cap,rfl,h1,h2⟩:∃a cap,v= .slice a l.length cap/\l.length <=cap/\cap <=9223372036854775807:=ef.slice hl;have HL:=V hl;clear hp hl;by_cases q:(l.length:Int) <=ff
 ·have f:decide ((l.length:Int) <=ff)=true:=ay q
  go_enter func150,ntmps150;go_wp2_with fail;refine bY (Gf (fun e=> !p e) _ l _ (ef.below HL.out ((an _ _).alloc (ag _) _) (fun _ _ h=>h.below ((an _ _).alloc (ag _) _))) 258 #[.pointer (some ⟨w.heap.size,0,none⟩)] (fun args w=>by rfl) ?_) ?_
  ·intro e he u w' hw' hu
   obtain⟨hX,hw⟩:=boxed hw';obtain⟨u1,u2⟩:=u;obtain⟨⟨⟨a1,LO,M5,-,-,-⟩,⟨a2,LA,M9,-,-,-⟩⟩,-⟩:=id hu;simp only at M5 M9;subst M5 M9;exact Ep (p e) _ _ _ _ _ _ Ly #[] _ w' hE hX (fun w2 h2=>by simpa using HP.out e he _ w2 (hw.trans (h2.mono hw.size)) (hu.below h2))
  rintro x w2 ⟨rfl,hb⟩;clear hE;have HF:=V f;clear f;have f:decide ((l.length:Int) <=ff)=true:=HF.out;go_wp2;go_ret;refine⟨?_,((an _ _).alloc (ag _) _).trans (hb.mono (by simp))⟩;have e1:l.all p= !(l.any fun e=> !p e):=by rw [bM];simp
  rw [f,e1,cd];rfl
 ·have f:decide ((l.length:Int) <=ff)=false:=aw q
  go_enter func150,ntmps150;go_wp2;go_ret;exact⟨by first | rfl | (rw [f];rfl),(an _ _).alloc (ag _) _⟩
theorem Hf (p:hI ->Bool) (v:Value) (l:List hI) (w:World) (hl:ef 2 oY gE w v l) (Ly:Nat) (cs:Array Value)
  (hE:∀args w,(callFunc Ly args).run prog w= .ok (.enter Ly args) w)
  (hp:∀e∈l,∀u w',Below w.heap.size w w' ->gE w' e u ->Calls prog Ly (#[.agg #[u.1,u.2]]++cs) w' (ew (p e) w')):
  Calls prog 255 #[v, .func (.func Ly) #[] cs] w (jM p l w):=by
 have HP:=V hp;have HI:=V hl;obtain⟨a,cap,rfl,h1,h2⟩:=ef.slice hl;clear hl hp;go_enter func255,ntmps255;go_wp2_with fail;refine eC (fun a' w'=>∃(k:Nat),a'=fr (.slice a l.length cap:: .func (.func Ly) #[] cs::gs a' 2 5 (.int .i64 l.length:: .int .i64 k::gs a' 9 10 []))/\pR p l w w' k) (fun a' _=>(l.length - (intOf (a'.tmps.getD 8 undef)).toNat)) ?_ ?_
 ·exact⟨0,rfl,by omega,fun i hi=>by omega,an _ _⟩
 ·skip
  rintro R a' w1 ⟨k,Lv,hJ⟩ HR;dsimp only [fr,gs]at Lv;generalize slot a'=f at Lv;subst Lv;obtain⟨hk,hm,hb⟩:=hJ;have Ma:=V hm;clear hm;by_cases Mi:k < l.length;rotate_left
  ·obtain rfl:k=l.length:=by omega
   go_wp2;go_ret;exact⟨by rw [gJ Ma.out];rfl,hb⟩
  obtain⟨e,he⟩:∃e,l[k]?=some e:=⟨_,aq Mi⟩;obtain⟨b,off,u,rfl,LD,hc,hu⟩:=(ef.below HI.out (hb.mono (ag _)) (fun _ _ h=>h.below (hb.mono (ag _)))).get he;have LC:=HP.out e (aN he) u w1 hb hu;obtain⟨u1,u2⟩:=u;obtain⟨⟨⟨a1,LO,M5,-,-,-⟩,Me⟩,-⟩:=id hu;obtain⟨a2,LA,M9,-,-⟩:=ef.slice Me;simp only at M5 M9;subst M5 M9;clear Me;have c0:=hc 0 _ rfl;have c1:=hc 1 _ rfl;rw [aI]at c0;have HE:=V he;clear he hc hu;cases hq:p e
  all_goals
   rw [hq]at LC;have HQ:=V hq;clear hq;go_wp2_with fail;refine LC.mono ?_;rintro x w2 ⟨rfl,Lw⟩;replace hb:=dT hb Lw;clear LC Lw c0 c1;go_wp2_with fail
  ·refine HR.out _ _ ⟨k+1,rfl,by omega,?_,hb⟩ ?_
   ·intro i hi d hd
    rcases bx i k with h | h
    ·exact Ma.out i h d hd
    ·obtain rfl:i=k:=by omega
     rw [HE.out]at hd;injection hd with hd;rw [<- hd];exact HQ.out
   ·simp [intOf]
    omega
  ·go_ret
   exact⟨by rw [ic HE.out HQ.out Ma.out];rfl,hb⟩
theorem G6 (p:hI ->Bool) (v:Value) (l:List hI) (w:World) (hl:ef 2 oY gE w v l) (Ly:Nat) (cs:Array Value)
  (hE:∀args w,(callFunc Ly args).run prog w= .ok (.enter Ly args) w)
  (hp:∀e∈l,∀u w',Below w.heap.size w w' ->gE w' e u ->Calls prog Ly (#[.agg #[u.1,u.2]]++cs) w' (ew (p e) w')):
  Calls prog 141 #[v, .func (.func Ly) #[] cs] w (ew (l.any p) w):=by
 go_enter func141,ntmps141;go_wp2_with fail;refine(Hf p v l _ hl Ly cs hE hp).mono ?_;rintro x w2 ⟨rfl,hb⟩;clear hE;go_wp2;go_ret;exact⟨by rw [<- ir];rfl,hb⟩
theorem GN (b:Bool) (a1 a2:Option Addr) (n1 n2 c1 c2:Nat) (Ly:Nat) (cs:Array Value) (X:Nat) (w:World)
  (hE:∀args w,(callFunc Ly args).run prog w= .ok (.enter Ly args) w) (hX:w.cell? ⟨X,0,none⟩=some (.func (.func Ly) #[] cs))
  (hp:∀w',Below w.heap.size w w' ->Calls prog Ly (#[.agg #[.slice a1 n1 c1, .slice a2 n2 c2]]++cs) w' (ew b w')):
  Calls prog 142 #[.agg #[.slice a1 n1 c1, .slice a2 n2 c2], .pointer (some ⟨X,0,none⟩)] w (ew (!b) w):=by
 have LD:=aO w _ hX;have HP:=V hp;clear hp;go_enter func142,ntmps142;go_wp2_with fail;refine(HP.out _ ((an _ _).alloc (ag _) _)).mono ?_;rintro x w2 ⟨rfl,hb⟩;clear hE hX;go_wp2;go_ret;exact⟨rfl,((an _ _).alloc (ag _) _).trans (hb.mono (by simp))⟩
theorem EL (p:hI ->Bool) (v:Value) (l:List hI) (w:World) (hl:ef 2 oY gE w v l) (Ly:Nat) (ff:Int)
  (hE:∀args w,(callFunc Ly args).run prog w= .ok (.enter Ly args) w)
  (hp:∀e∈l,∀u w',Below w.heap.size w w' ->gE w' e u ->Calls prog Ly #[.agg #[u.1,u.2]] w' (ew (p e) w')):
  Calls prog 102 #[v, .int .i64 ff, .func (.func Ly) #[] #[]] w (ew (decide ((l.length:Int) <=ff)&&l.all p) w):=by
 have HP:=V hp;obtain⟨a,cap,rfl,h1,h2⟩:∃a cap,v= .slice a l.length cap/\l.length <=cap/\cap <=9223372036854775807:=ef.slice hl;have HL:=V hl;clear hp hl;by_cases q:(l.length:Int) <=ff
 ·have f:decide ((l.length:Int) <=ff)=true:=ay q
  go_enter func102,ntmps102;go_wp2_with fail;refine bY (G6 (fun e=> !p e) _ l _ (ef.below HL.out ((an _ _).alloc (ag _) _) (fun _ _ h=>h.below ((an _ _).alloc (ag _) _))) 142 #[.pointer (some ⟨w.heap.size,0,none⟩)] (fun args w=>by rfl) ?_) ?_
  ·intro e he u w' hw' hu
   obtain⟨hX,hw⟩:=boxed hw';obtain⟨u1,u2⟩:=u;obtain⟨⟨⟨a1,LO,M5,-,-,-⟩,Me⟩,-⟩:=id hu;obtain⟨a2,LA,M9,-,-⟩:=ef.slice Me;simp only at M5 M9;subst M5 M9;clear Me;exact GN (p e) _ _ _ _ _ _ Ly #[] _ w' hE hX (fun w2 h2=>by simpa using HP.out e he _ w2 (hw.trans (h2.mono hw.size)) (hu.below h2))
  rintro x w2 ⟨rfl,hb⟩;clear hE;have HF:=V f;clear f;have f:decide ((l.length:Int) <=ff)=true:=HF.out;go_wp2;go_ret;refine⟨?_,((an _ _).alloc (ag _) _).trans (hb.mono (by simp))⟩;have e1:l.all p= !(l.any fun e=> !p e):=by rw [bM];simp
  rw [f,e1,cd];rfl
 ·have f:decide ((l.length:Int) <=ff)=false:=aw q
  go_enter func102,ntmps102;go_wp2;go_ret;exact⟨by first | rfl | (rw [f];rfl),(an _ _).alloc (ag _) _⟩
theorem IM (p:jh ->Bool) (v:Value) (l:List jh) (w:World) (hl:ef 2 rE gQ w v l) (Ly:Nat) (cs:Array Value)
  (hE:∀args w,(callFunc Ly args).run prog w= .ok (.enter Ly args) w)
  (hp:∀e∈l,∀u w',Below w.heap.size w w' ->gQ w' e u ->Calls prog Ly (#[.agg #[.int .i64 e.off,u]]++cs) w' (ew (p e) w')):
  Calls prog 113 #[v, .func (.func Ly) #[] cs] w (jM p l w):=by
 have HP:=V hp;have HI:=V hl;obtain⟨a,cap,rfl,h1,h2⟩:=ef.slice hl;clear hl hp;go_enter func113,ntmps113;go_wp2_with fail;refine eC (fun a' w'=>∃(k:Nat),a'=fr (.slice a l.length cap:: .func (.func Ly) #[] cs::gs a' 2 5 (.int .i64 l.length:: .int .i64 k::gs a' 9 10 []))/\pR p l w w' k) (fun a' _=>(l.length - (intOf (a'.tmps.getD 8 undef)).toNat)) ?_ ?_
 ·exact⟨0,rfl,by omega,fun i hi=>by omega,an _ _⟩
 ·skip
  rintro R a' w1 ⟨k,Lv,hJ⟩ HR;dsimp only [fr,gs]at Lv;generalize slot a'=f at Lv;subst Lv;obtain⟨hk,hm,hb⟩:=hJ;have Ma:=V hm;clear hm;by_cases Mi:k < l.length;rotate_left
  ·obtain rfl:k=l.length:=by omega
   go_wp2;go_ret;exact⟨by rw [gJ Ma.out];rfl,hb⟩
  obtain⟨e,he⟩:∃e,l[k]?=some e:=⟨_,aq Mi⟩;obtain⟨b,off,u,rfl,LD,hc,hu⟩:=(ef.below HI.out (hb.mono (ag _)) (fun _ _ h=>h.below (hb.mono (ag _)))).get he;have LC:=HP.out e (aN he) u w1 hb hu;obtain⟨⟨a1,LO,rfl,-,-,-⟩,-⟩:=id hu;have c0:=hc 0 _ rfl;have c1:=hc 1 _ rfl;rw [aI]at c0;have HE:=V he;clear he hc hu;cases hq:p e
  all_goals
   rw [hq]at LC;have HQ:=V hq;clear hq;go_wp2_with fail;refine LC.mono ?_;rintro x w2 ⟨rfl,Lw⟩;replace hb:=dT hb Lw;clear LC Lw c0 c1;go_wp2_with fail
  ·refine HR.out _ _ ⟨k+1,rfl,by omega,?_,hb⟩ ?_
   ·intro i hi d hd
    rcases bx i k with h | h
    ·exact Ma.out i h d hd
    ·obtain rfl:i=k:=by omega
     rw [HE.out]at hd;injection hd with hd;rw [<- hd];exact HQ.out
   ·simp [intOf]
    omega
  ·go_ret
   exact⟨by rw [ic HE.out HQ.out Ma.out];rfl,hb⟩
theorem uS (p:jh ->Bool) (v:Value) (l:List jh) (w:World) (hl:ef 2 rE gQ w v l) (Ly:Nat) (cs:Array Value)
  (hE:∀args w,(callFunc Ly args).run prog w= .ok (.enter Ly args) w)
  (hp:∀e∈l,∀u w',Below w.heap.size w w' ->gQ w' e u ->Calls prog Ly (#[.agg #[.int .i64 e.off,u]]++cs) w' (ew (p e) w')):
  Calls prog 77 #[v, .func (.func Ly) #[] cs] w (ew (l.any p) w):=by
 go_enter func77,ntmps77;go_wp2_with fail;refine(IM p v l _ hl Ly cs hE hp).mono ?_;rintro x w2 ⟨rfl,hb⟩;clear hE;go_wp2;go_ret;exact⟨by rw [<- ir];rfl,hb⟩
theorem FD (b:Bool) (z:Int) (a1:Option Addr) (n1 c1:Nat) (Ly:Nat) (cs:Array Value) (X:Nat) (w:World)
  (hE:∀args w,(callFunc Ly args).run prog w= .ok (.enter Ly args) w) (hX:w.cell? ⟨X,0,none⟩=some (.func (.func Ly) #[] cs))
  (hp:∀w',Below w.heap.size w w' ->Calls prog Ly (#[.agg #[.int .i64 z, .slice a1 n1 c1]]++cs) w' (ew b w')):
  Calls prog 265 #[.agg #[.int .i64 z, .slice a1 n1 c1], .pointer (some ⟨X,0,none⟩)] w (ew (!b) w):=by
 have LD:=aO w _ hX;have HP:=V hp;clear hp;go_enter func265,ntmps265;go_wp2_with fail;refine(HP.out _ ((an _ _).alloc (ag _) _)).mono ?_;rintro x w2 ⟨rfl,hb⟩;clear hE hX;go_wp2;go_ret;exact⟨rfl,((an _ _).alloc (ag _) _).trans (hb.mono (by simp))⟩
theorem E4 (p:jh ->Bool) (v:Value) (l:List jh) (w:World) (hl:ef 2 rE gQ w v l) (Ly:Nat) (ff:Int)
  (hE:∀args w,(callFunc Ly args).run prog w= .ok (.enter Ly args) w)
  (hp:∀e∈l,∀u w',Below w.heap.size w w' ->gQ w' e u ->Calls prog Ly #[.agg #[.int .i64 e.off,u]] w' (ew (p e) w')):
  Calls prog 160 #[v, .int .i64 ff, .func (.func Ly) #[] #[]] w (ew (decide ((l.length:Int) <=ff)&&l.all p) w):=by
 have HP:=V hp;obtain⟨a,cap,rfl,h1,h2⟩:∃a cap,v= .slice a l.length cap/\l.length <=cap/\cap <=9223372036854775807:=ef.slice hl;have HL:=V hl;clear hp hl;by_cases q:(l.length:Int) <=ff
 ·have f:decide ((l.length:Int) <=ff)=true:=ay q
  go_enter func160,ntmps160;go_wp2_with fail;refine bY (uS (fun e=> !p e) _ l _ (ef.below HL.out ((an _ _).alloc (ag _) _) (fun _ _ h=>h.below ((an _ _).alloc (ag _) _))) 265 #[.pointer (some ⟨w.heap.size,0,none⟩)] (fun args w=>by rfl) ?_) ?_
  ·intro e he u w' hw' hu
   obtain⟨hX,hw⟩:=boxed hw';obtain⟨⟨a1,LO,rfl,-,-,-⟩,-⟩:=id hu;exact FD (p e) _ _ _ _ Ly #[] _ w' hE hX (fun w2 h2=>by simpa using HP.out e he _ w2 (hw.trans (h2.mono hw.size)) (hu.below h2))
  rintro x w2 ⟨rfl,hb⟩;clear hE;have HF:=V f;clear f;have f:decide ((l.length:Int) <=ff)=true:=HF.out;go_wp2;go_ret;refine⟨?_,((an _ _).alloc (ag _) _).trans (hb.mono (by simp))⟩;have e1:l.all p= !(l.any fun e=> !p e):=by rw [bM];simp
  rw [f,e1,cd];rfl
 ·have f:decide ((l.length:Int) <=ff)=false:=aw q
  go_enter func160,ntmps160;go_wp2;go_ret;exact⟨by first | rfl | (rw [f];rfl),(an _ _).alloc (ag _) _⟩
theorem Jc (p:gR ->Bool) (v:Value) (l:List gR) (w:World) (hl:ef 2 nJ gb w v l) (Ly:Nat) (cs:Array Value)
  (hE:∀args w,(callFunc Ly args).run prog w= .ok (.enter Ly args) w)
  (hp:∀e∈l,∀u w',Below w.heap.size w w' ->gb w' e u ->Calls prog Ly (#[.agg #[.int .i64 e.off,u]]++cs) w' (ew (p e) w')):
  Calls prog 307 #[v, .func (.func Ly) #[] cs] w (jM p l w):=by
 have HP:=V hp;have HI:=V hl;obtain⟨a,cap,rfl,h1,h2⟩:=ef.slice hl;clear hl hp;go_enter func307,ntmps307;go_wp2_with fail;refine eC (fun a' w'=>∃(k:Nat),a'=fr (.slice a l.length cap:: .func (.func Ly) #[] cs::gs a' 2 5 (.int .i64 l.length:: .int .i64 k::gs a' 9 10 []))/\pR p l w w' k) (fun a' _=>(l.length - (intOf (a'.tmps.getD 8 undef)).toNat)) ?_ ?_
 ·exact⟨0,rfl,by omega,fun i hi=>by omega,an _ _⟩
 ·skip
  rintro R a' w1 ⟨k,Lv,hJ⟩ HR;dsimp only [fr,gs]at Lv;generalize slot a'=f at Lv;subst Lv;obtain⟨hk,hm,hb⟩:=hJ;have Ma:=V hm;clear hm;by_cases Mi:k < l.length;rotate_left
  ·obtain rfl:k=l.length:=by omega
   go_wp2;go_ret;exact⟨by rw [gJ Ma.out];rfl,hb⟩
  obtain⟨e,he⟩:∃e,l[k]?=some e:=⟨_,aq Mi⟩;obtain⟨b,off,u,rfl,LD,hc,hu⟩:=(ef.below HI.out (hb.mono (ag _)) (fun _ _ h=>h.below (hb.mono (ag _)))).get he;have LC:=HP.out e (aN he) u w1 hb hu;obtain⟨⟨a1,LO,rfl,-,-,-⟩,-⟩:=id hu;have c0:=hc 0 _ rfl;have c1:=hc 1 _ rfl;rw [aI]at c0;have HE:=V he;clear he hc hu;cases hq:p e
  all_goals
   rw [hq]at LC;have HQ:=V hq;clear hq;go_wp2_with fail;refine LC.mono ?_;rintro x w2 ⟨rfl,Lw⟩;replace hb:=dT hb Lw;clear LC Lw c0 c1;go_wp2_with fail
  ·refine HR.out _ _ ⟨k+1,rfl,by omega,?_,hb⟩ ?_
   ·intro i hi d hd
    rcases bx i k with h | h
    ·exact Ma.out i h d hd
    ·obtain rfl:i=k:=by omega
     rw [HE.out]at hd;injection hd with hd;rw [<- hd];exact HQ.out
   ·simp [intOf]
    omega
  ·go_ret
   exact⟨by rw [ic HE.out HQ.out Ma.out];rfl,hb⟩
theorem FK (p:gR ->Bool) (v:Value) (l:List gR) (w:World) (hl:ef 2 nJ gb w v l) (Ly:Nat) (cs:Array Value)
  (hE:∀args w,(callFunc Ly args).run prog w= .ok (.enter Ly args) w)
  (hp:∀e∈l,∀u w',Below w.heap.size w w' ->gb w' e u ->Calls prog Ly (#[.agg #[.int .i64 e.off,u]]++cs) w' (ew (p e) w')):
  Calls prog 266 #[v, .func (.func Ly) #[] cs] w (ew (l.any p) w):=by
 go_enter func266,ntmps266;go_wp2_with fail;refine(Jc p v l _ hl Ly cs hE hp).mono ?_;rintro x w2 ⟨rfl,hb⟩;clear hE;go_wp2;go_ret;exact⟨by rw [<- ir];rfl,hb⟩
theorem GX (b:Bool) (z:Int) (a1:Option Addr) (n1 c1:Nat) (Ly:Nat) (cs:Array Value) (X:Nat) (w:World)
  (hE:∀args w,(callFunc Ly args).run prog w= .ok (.enter Ly args) w) (hX:w.cell? ⟨X,0,none⟩=some (.func (.func Ly) #[] cs))
  (hp:∀w',Below w.heap.size w w' ->Calls prog Ly (#[.agg #[.int .i64 z, .slice a1 n1 c1]]++cs) w' (ew b w')):
  Calls prog 267 #[.agg #[.int .i64 z, .slice a1 n1 c1], .pointer (some ⟨X,0,none⟩)] w (ew (!b) w):=by
 have LD:=aO w _ hX;have HP:=V hp;clear hp;go_enter func267,ntmps267;go_wp2_with fail;refine(HP.out _ ((an _ _).alloc (ag _) _)).mono ?_;rintro x w2 ⟨rfl,hb⟩;clear hE hX;go_wp2;go_ret;exact⟨rfl,((an _ _).alloc (ag _) _).trans (hb.mono (by simp))⟩
theorem Eh (p:gR ->Bool) (v:Value) (l:List gR) (w:World) (hl:ef 2 nJ gb w v l) (Ly:Nat) (ff:Int)
  (hE:∀args w,(callFunc Ly args).run prog w= .ok (.enter Ly args) w)
  (hp:∀e∈l,∀u w',Below w.heap.size w w' ->gb w' e u ->Calls prog Ly #[.agg #[.int .i64 e.off,u]] w' (ew (p e) w')):
  Calls prog 163 #[v, .int .i64 ff, .func (.func Ly) #[] #[]] w (ew (decide ((l.length:Int) <=ff)&&l.all p) w):=by
 have HP:=V hp;obtain⟨a,cap,rfl,h1,h2⟩:∃a cap,v= .slice a l.length cap/\l.length <=cap/\cap <=9223372036854775807:=ef.slice hl;have HL:=V hl;clear hp hl;by_cases q:(l.length:Int) <=ff
 ·have f:decide ((l.length:Int) <=ff)=true:=ay q
  go_enter func163,ntmps163;go_wp2_with fail;refine bY (FK (fun e=> !p e) _ l _ (ef.below HL.out ((an _ _).alloc (ag _) _) (fun _ _ h=>h.below ((an _ _).alloc (ag _) _))) 267 #[.pointer (some ⟨w.heap.size,0,none⟩)] (fun args w=>by rfl) ?_) ?_
  ·intro e he u w' hw' hu
   obtain⟨hX,hw⟩:=boxed hw';obtain⟨⟨a1,LO,rfl,-,-,-⟩,-⟩:=id hu;exact GX (p e) _ _ _ _ Ly #[] _ w' hE hX (fun w2 h2=>by simpa using HP.out e he _ w2 (hw.trans (h2.mono hw.size)) (hu.below h2))
  rintro x w2 ⟨rfl,hb⟩;clear hE;have HF:=V f;clear f;have f:decide ((l.length:Int) <=ff)=true:=HF.out;go_wp2;go_ret;refine⟨?_,((an _ _).alloc (ag _) _).trans (hb.mono (by simp))⟩;have e1:l.all p= !(l.any fun e=> !p e):=by rw [bM];simp
  rw [f,e1,cd];rfl
 ·have f:decide ((l.length:Int) <=ff)=false:=aw q
  go_enter func163,ntmps163;go_wp2;go_ret;exact⟨by first | rfl | (rw [f];rfl),(an _ _).alloc (ag _) _⟩
theorem Is (p:eP ->Bool) (v:Value) (l:List eP) (w:World) (hl:ef 4 rA gD w v l) (Ly:Nat) (cs:Array Value)
  (hE:∀args w,(callFunc Ly args).run prog w= .ok (.enter Ly args) w)
  (hp:∀e∈l,∀u w',Below w.heap.size w w' ->gD w' e u ->Calls prog Ly (#[.agg #[.int .i64 e.op, .int .i64 e.a, .int .i64 e.b,u]]++cs) w' (ew (p e) w')):
  Calls prog 256 #[v, .func (.func Ly) #[] cs] w (jM p l w):=by
 have HP:=V hp;have HI:=V hl;obtain⟨a,cap,rfl,h1,h2⟩:=ef.slice hl;clear hl hp;go_enter func256,ntmps256;go_wp2_with fail;refine eC (fun a' w'=>∃(k:Nat),a'=fr (.slice a l.length cap:: .func (.func Ly) #[] cs::gs a' 2 5 (.int .i64 l.length:: .int .i64 k::gs a' 9 10 []))/\pR p l w w' k) (fun a' _=>(l.length - (intOf (a'.tmps.getD 8 undef)).toNat)) ?_ ?_
 ·exact⟨0,rfl,by omega,fun i hi=>by omega,an _ _⟩
 ·skip
  rintro R a' w1 ⟨k,Lv,hJ⟩ HR;dsimp only [fr,gs]at Lv;generalize slot a'=f at Lv;subst Lv;obtain⟨hk,hm,hb⟩:=hJ;have Ma:=V hm;clear hm;by_cases Mi:k < l.length;rotate_left
  ·obtain rfl:k=l.length:=by omega
   go_wp2;go_ret;exact⟨by rw [gJ Ma.out];rfl,hb⟩
  obtain⟨e,he⟩:∃e,l[k]?=some e:=⟨_,aq Mi⟩;obtain⟨b,off,u,rfl,LD,hc,hu⟩:=(ef.below HI.out (hb.mono (ag _)) (fun _ _ h=>h.below (hb.mono (ag _)))).get he;have LC:=HP.out e (aN he) u w1 hb hu;obtain⟨⟨a1,LO,rfl,-,-,-⟩,-⟩:=id hu;have c0:=hc 0 _ rfl;have c1:=hc 1 _ rfl;have c2:=hc 2 _ rfl;have c3:=hc 3 _ rfl;rw [aI]at c0;have HE:=V he;clear he hc hu;cases hq:p e
  all_goals
   rw [hq]at LC;have HQ:=V hq;clear hq;go_wp2_with fail;refine LC.mono ?_;rintro x w2 ⟨rfl,Lw⟩;replace hb:=dT hb Lw;clear LC Lw c0 c1 c2 c3;go_wp2_with fail
  ·refine HR.out _ _ ⟨k+1,rfl,by omega,?_,hb⟩ ?_
   ·intro i hi d hd
    rcases bx i k with h | h
    ·exact Ma.out i h d hd
    ·obtain rfl:i=k:=by omega
     rw [HE.out]at hd;injection hd with hd;rw [<- hd];exact HQ.out
   ·simp [intOf]
    omega
  ·go_ret
   exact⟨by rw [ic HE.out HQ.out Ma.out];rfl,hb⟩
theorem Gx (p:eP ->Bool) (v:Value) (l:List eP) (w:World) (hl:ef 4 rA gD w v l) (Ly:Nat) (cs:Array Value)
  (hE:∀args w,(callFunc Ly args).run prog w= .ok (.enter Ly args) w)
  (hp:∀e∈l,∀u w',Below w.heap.size w w' ->gD w' e u ->Calls prog Ly (#[.agg #[.int .i64 e.op, .int .i64 e.a, .int .i64 e.b,u]]++cs) w' (ew (p e) w')):
  Calls prog 144 #[v, .func (.func Ly) #[] cs] w (ew (l.any p) w):=by
 go_enter func144,ntmps144;go_wp2_with fail;refine(Is p v l _ hl Ly cs hE hp).mono ?_;rintro x w2 ⟨rfl,hb⟩;clear hE;go_wp2;go_ret;exact⟨by rw [<- ir];rfl,hb⟩
theorem Fg (b:Bool) (z1 z2 z3:Int) (a1:Option Addr) (n1 c1:Nat) (Ly:Nat) (cs:Array Value) (X:Nat) (w:World)
  (hE:∀args w,(callFunc Ly args).run prog w= .ok (.enter Ly args) w) (hX:w.cell? ⟨X,0,none⟩=some (.func (.func Ly) #[] cs))
  (hp:∀w',Below w.heap.size w w' ->Calls prog Ly (#[.agg #[.int .i64 z1, .int .i64 z2, .int .i64 z3, .slice a1 n1 c1]]++cs) w' (ew b w')):
  Calls prog 145 #[.agg #[.int .i64 z1, .int .i64 z2, .int .i64 z3, .slice a1 n1 c1], .pointer (some ⟨X,0,none⟩)] w (ew (!b) w):=by
 have LD:=aO w _ hX;have HP:=V hp;clear hp;go_enter func145,ntmps145;go_wp2_with fail;refine(HP.out _ ((an _ _).alloc (ag _) _)).mono ?_;rintro x w2 ⟨rfl,hb⟩;clear hE hX;go_wp2;go_ret;exact⟨rfl,((an _ _).alloc (ag _) _).trans (hb.mono (by simp))⟩
theorem Fv (p:eP ->Bool) (v:Value) (l:List eP) (w:World) (hl:ef 4 rA gD w v l) (Ly:Nat) (ff:Int)
  (hE:∀args w,(callFunc Ly args).run prog w= .ok (.enter Ly args) w)
  (hp:∀e∈l,∀u w',Below w.heap.size w w' ->gD w' e u ->Calls prog Ly #[.agg #[.int .i64 e.op, .int .i64 e.a, .int .i64 e.b,u]] w' (ew (p e) w')):
  Calls prog 106 #[v, .int .i64 ff, .func (.func Ly) #[] #[]] w (ew (decide ((l.length:Int) <=ff)&&l.all p) w):=by
 have HP:=V hp;obtain⟨a,cap,rfl,h1,h2⟩:∃a cap,v= .slice a l.length cap/\l.length <=cap/\cap <=9223372036854775807:=ef.slice hl;have HL:=V hl;clear hp hl;by_cases q:(l.length:Int) <=ff
 ·have f:decide ((l.length:Int) <=ff)=true:=ay q
  go_enter func106,ntmps106;go_wp2_with fail;refine bY (Gx (fun e=> !p e) _ l _ (ef.below HL.out ((an _ _).alloc (ag _) _) (fun _ _ h=>h.below ((an _ _).alloc (ag _) _))) 145 #[.pointer (some ⟨w.heap.size,0,none⟩)] (fun args w=>by rfl) ?_) ?_
  ·intro e he u w' hw' hu
   obtain⟨hX,hw⟩:=boxed hw';obtain⟨⟨a1,LO,rfl,-,-,-⟩,-⟩:=id hu;exact Fg (p e) _ _ _ _ _ _ Ly #[] _ w' hE hX (fun w2 h2=>by simpa using HP.out e he _ w2 (hw.trans (h2.mono hw.size)) (hu.below h2))
  rintro x w2 ⟨rfl,hb⟩;clear hE;have HF:=V f;clear f;have f:decide ((l.length:Int) <=ff)=true:=HF.out;go_wp2;go_ret;refine⟨?_,((an _ _).alloc (ag _) _).trans (hb.mono (by simp))⟩;have e1:l.all p= !(l.any fun e=> !p e):=by rw [bM];simp
  rw [f,e1,cd];rfl
 ·have f:decide ((l.length:Int) <=ff)=false:=aw q
  go_enter func106,ntmps106;go_wp2;go_ret;exact⟨by first | rfl | (rw [f];rfl),(an _ _).alloc (ag _) _⟩
theorem Hn (p:UInt8 ->Bool) (v:Value) (l:List UInt8) (w:World) (hl:eG w v l) (Ly:Nat) (cs:Array Value)
  (hE:∀args w,(callFunc Ly args).run prog w= .ok (.enter Ly args) w)
  (hp:∀e∈l,∀w',Below w.heap.size w w' ->Calls prog Ly (#[bv e]++cs) w' (ew (p e) w')):
  Calls prog 313 #[v, .func (.func Ly) #[] cs] w (jM p l w):=by
 have HP:=V hp;have HI:=V hl;obtain⟨a,cap,rfl,h1,h2,_⟩:=id hl;unfold maxLen at h2;clear hl hp;go_enter func313,ntmps313;go_wp2_with fail;refine eC (fun a' w'=>∃(k:Nat),a'=fr (.slice a l.length cap:: .func (.func Ly) #[] cs::gs a' 2 5 (.int .i64 l.length:: .int .i64 k::gs a' 9 10 []))/\pR p l w w' k) (fun a' _=>(l.length - (intOf (a'.tmps.getD 8 undef)).toNat)) ?_ ?_
 ·exact⟨0,rfl,by omega,fun i hi=>by omega,an _ _⟩
 ·skip
  rintro R a' w1 ⟨k,Lv,hJ⟩ HR;dsimp only [fr,gs]at Lv;generalize slot a'=f at Lv;subst Lv;obtain⟨hk,hm,hb⟩:=hJ;have Ma:=V hm;clear hm;by_cases Mi:k < l.length;rotate_left
  ·obtain rfl:k=l.length:=by omega
   go_wp2;go_ret;exact⟨by rw [gJ Ma.out];rfl,hb⟩
  obtain⟨e,he⟩:∃e,l[k]?=some e:=⟨_,aq Mi⟩;obtain⟨a',LQ,hv,_,_,Lt⟩:=HI.out.below (hb.mono (ag _));injection hv with e1 e2 e3;subst e1 e3;obtain⟨b,off,rfl,c0⟩:=Lt k e he;have LC:=HP.out e (aN he) w1 hb;have HE:=V he;clear Lt e2 he;cases hq:p e
  all_goals
   rw [hq]at LC;have HQ:=V hq;clear hq;go_wp2_with fail;refine LC.mono ?_;rintro x w2 ⟨rfl,Lw⟩;replace hb:=dT hb Lw;clear LC Lw c0;go_wp2_with fail
  ·refine HR.out _ _ ⟨k+1,rfl,by omega,?_,hb⟩ ?_
   ·intro i hi d hd
    rcases bx i k with h | h
    ·exact Ma.out i h d hd
    ·obtain rfl:i=k:=by omega
     rw [HE.out]at hd;injection hd with hd;rw [<- hd];exact HQ.out
   ·simp [intOf]
    omega
  ·go_ret
   exact⟨by rw [ic HE.out HQ.out Ma.out];rfl,hb⟩
theorem GD (p:UInt8 ->Bool) (v:Value) (l:List UInt8) (w:World) (hl:eG w v l) (Ly:Nat) (cs:Array Value)
  (hE:∀args w,(callFunc Ly args).run prog w= .ok (.enter Ly args) w)
  (hp:∀e∈l,∀w',Below w.heap.size w w' ->Calls prog Ly (#[bv e]++cs) w' (ew (p e) w')):
  Calls prog 304 #[v, .func (.func Ly) #[] cs] w (ew (l.any p) w):=by
 go_enter func304,ntmps304;go_wp2_with fail;refine(Hn p v l _ hl Ly cs hE hp).mono ?_;rintro x w2 ⟨rfl,hb⟩;clear hE;go_wp2;go_ret;exact⟨by rw [<- ir];rfl,hb⟩
theorem ER (b:Bool) (c:UInt8) (Ly:Nat) (cs:Array Value) (X:Nat) (w:World)
  (hE:∀args w,(callFunc Ly args).run prog w= .ok (.enter Ly args) w) (hX:w.cell? ⟨X,0,none⟩=some (.func (.func Ly) #[] cs))
  (hp:∀w',Below w.heap.size w w' ->Calls prog Ly (#[bv c]++cs) w' (ew b w')):
  Calls prog 305 #[bv c, .pointer (some ⟨X,0,none⟩)] w (ew (!b) w):=by
 have LD:=aO w _ hX;have HP:=V hp;clear hp;go_enter func305,ntmps305;go_wp2_with fail;refine(HP.out _ (an _ _)).mono ?_;rintro x w2 ⟨rfl,hb⟩;clear hE hX;go_wp2;go_ret;exact⟨rfl,hb⟩
theorem FB (p:UInt8 ->Bool) (v:Value) (l:List UInt8) (w:World) (hl:eG w v l) (Ly:Nat) (ff:Int)
  (hE:∀args w,(callFunc Ly args).run prog w= .ok (.enter Ly args) w)
  (hp:∀e∈l,∀w',Below w.heap.size w w' ->Calls prog Ly #[bv e] w' (ew (p e) w')):
  Calls prog 260 #[v, .int .i64 ff, .func (.func Ly) #[] #[]] w (ew (decide ((l.length:Int) <=ff)&&l.all p) w):=by
 have HP:=V hp;obtain⟨a,cap,rfl,h1,h2⟩:∃a cap,v= .slice a l.length cap/\l.length <=cap/\cap <=9223372036854775807:=vR hl;have HL:=V hl;clear hp hl;by_cases q:(l.length:Int) <=ff
 ·have f:decide ((l.length:Int) <=ff)=true:=ay q
  go_enter func260,ntmps260;go_wp2_with fail;refine bY (GD (fun e=> !p e) _ l _ (HL.out.below ((an _ _).alloc (ag _) _)) 305 #[.pointer (some ⟨w.heap.size,0,none⟩)] (fun args w=>by rfl) ?_) ?_
  ·intro e he w' hw'
   obtain⟨hX,hw⟩:=boxed hw';exact ER (p e) _ Ly #[] _ w' hE hX (fun w2 h2=>by simpa using HP.out e he w2 (hw.trans (h2.mono hw.size)))
  rintro x w2 ⟨rfl,hb⟩;clear hE;have HF:=V f;clear f;have f:decide ((l.length:Int) <=ff)=true:=HF.out;go_wp2;go_ret;refine⟨?_,((an _ _).alloc (ag _) _).trans (hb.mono (by simp))⟩;have e1:l.all p= !(l.any fun e=> !p e):=by rw [bM];simp
  rw [f,e1,cd];rfl
 ·have f:decide ((l.length:Int) <=ff)=false:=aw q
  go_enter func260,ntmps260;go_wp2;go_ret;exact⟨by first | rfl | (rw [f];rfl),(an _ _).alloc (ag _) _⟩
def tT (n:Int):Bool:= !lN n 0 1000
theorem E6 (l:List Int):l.any tT=false↔∀n∈l,fO n:=by
 rw [dy]
 constructor
 ·intro h n hn
  have:=h n hn;simp only [tT,dO,Bool.not_eq_false]at this;exact jE.1 (by simpa using this)
 ·intro h n hn
  have:=jE.2 (h n hn);simp [tT,this]
theorem vB (n:Int) (w:World):Calls prog 149 #[.int .i64 n] w (ew (tT n) w):=by
 go_enter func149,ntmps149;go_wp2_with fail;refine(nd n _).mono ?_;rintro x w1 ⟨rfl,hb⟩;go_wp2;go_ret;exact⟨rfl,hb⟩
theorem yU (v:Value) (l:List Int) (w:World) (hl:ee 1 eU w v l):
  Calls prog 112 #[v, .func (.func 149) #[] #[]] w (jM tT l w):=by
 have HI:=V hl;have hl':=hl;obtain⟨a,cap,rfl,h1,h2,_⟩:=hl';unfold maxLen at h2;clear hl;go_enter func112,ntmps112;go_wp2_with fail;refine eC (fun a' w'=>∃(k:Nat),a'=fr (.slice a l.length cap:: .func (.func 149) #[] #[]::gs a' 2 5 (.int .i64 l.length:: .int .i64 k::gs a' 9 10 []))/\pR tT l w w' k) (fun a' _=>(l.length - (intOf (a'.tmps.getD 8 undef)).toNat)) ?_ ?_
 ·exact⟨0,rfl,by omega,fun i hi=>by omega,an _ _⟩
 ·skip
  rintro R a' w1 ⟨k,Lv,hJ⟩ HR;dsimp only [fr,gs]at Lv;generalize slot a'=f at Lv;subst Lv;obtain⟨hk,hm,hb⟩:=hJ;have Ma:=V hm;clear hm;by_cases Mi:k < l.length;rotate_left
  ·obtain rfl:k=l.length:=by omega
   go_wp2;go_ret;exact⟨by rw [gJ Ma.out];rfl,hb⟩
  obtain⟨e,he⟩:∃e,l[k]?=some e:=⟨_,aq Mi⟩;obtain⟨a',LQ,hv,_,_,Lt⟩:=HI.out.below (hb.mono (ag _));injection hv with e1 e2 e3;subst e1 e3;obtain⟨b,off,rfl,LD,hc⟩:=Lt k e he;have c0:=hc 0 _ rfl;rw [aI,aY]at c0;have HE:=V he;clear Lt e2 he hc;have LC:=vB e w1;cases hq:tT e
  all_goals
   rw [hq]at LC;have HQ:=V hq;clear hq;go_wp2_with fail;refine LC.mono ?_;rintro x w2 ⟨rfl,Lw⟩;replace hb:=dT hb Lw;clear LC Lw;go_wp2_with fail
  ·refine HR.out _ _ ⟨k+1,rfl,by omega,?_,hb⟩ ?_
   ·intro i hi d hd
    rcases bx i k with h | h
    ·exact Ma.out i h d hd
    ·obtain rfl:i=k:=by omega
     rw [HE.out]at hd;injection hd with hd;rw [<- hd];exact HQ.out
   ·simp [intOf]
    omega
  ·go_ret
   exact⟨by rw [ic HE.out HQ.out Ma.out];rfl,hb⟩
theorem xX (v:Value) (l:List Int) (w:World) (hl:ee 1 eU w v l):
  Calls prog 75 #[v, .func (.func 149) #[] #[]] w (ew (l.any tT) w):=by
 go_enter func75,ntmps75;go_wp2_with fail;refine(yU v l _ hl).mono ?_;rintro x w2 ⟨rfl,hb⟩;go_wp2;go_ret;exact⟨by rw [<- ir];rfl,hb⟩
end Go.Proofs.YtjmeglibedbljaaGreatDoor
