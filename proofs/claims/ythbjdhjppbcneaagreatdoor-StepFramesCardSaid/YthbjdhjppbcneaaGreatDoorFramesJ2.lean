import Derived.Test.YthbjdhjppbcneaaGreatDoorFramesJ1
namespace Go.Proofs.YthbjdhjppbcneaaGreatDoor
set_option maxRecDepth 100000
set_option maxHeartbeats 20000000
open Go.RowKit Tryz
open Lib renaming hid->V
set_option linter.all false
def nZ:List UInt8 ->Nat
 | []=>0
 | x::l=>x.toNat %128+128*nZ l
def ib (bits:Int) (l:List UInt8):Nat × Nat × Int:=
 if(fc bits l).2≠0 then(0,0,(fc bits l).2)
 else if eP (nZ (l.take (fc bits l).1))=l.take (fc bits l).1/\nZ (l.take (fc bits l).1) < 2^bits.toNat then(nZ (l.take (fc bits l).1),(fc bits l).1,0)
 else(0,0,1)
theorem jf {bits:Int} {l:List UInt8} (h:(fc bits l).2=0):
  1 <=bits/\bits <=64/\(fc bits l).1=cont l+1/\cont l+1 <=l.length/\(cont l:Int)+1 <=(bits+6)/7:=by
 have:=xH l;unfold fc at*;by_cases h1:bits < 1\/64 < bits
 ·rw [aJ h1]at h;cases h
 rw [aC h1]at*;by_cases h2:(bits+6)/7 <=cont l
 ·rw [aJ h2]at h;cases h
 rw [aC h2]at*;by_cases h3:cont l=l.length
 ·rw [aJ h3]at h;cases h
 rw [aC h3];exact⟨by omega,by omega,rfl,by omega,by omega⟩
theorem wrap_u64 (n:Int):IntKind.u64.wrap n=n %18446744073709551616:=by simp [IntKind.wrap,IntKind.bits,IntKind.signed]
theorem IK (y:Nat) (h:y < 256):bits .andNot .u8 (y:Int) 128=((y %128:Nat):Int):=by
 have h0:=u8_andNot_nat y 128 h (by omega);rw [show(255 - 128:Nat)=127 from rfl,nat_mask7]at h0;exact h0
theorem JI (x y:Nat) (hy:y < 256):
  bits .or .u64 (IntKind.u64.wrap ((x:Int)*128)) (IntKind.u64.wrap (bits .andNot .u8 (y:Int) 128))=(((y %128+128*x) %18446744073709551616:Nat):Int):=by
 rw [IK y hy,wrap_u64,wrap_u64];have h1:((x:Int)*128) %18446744073709551616=((x*128 %18446744073709551616:Nat):Int):=by omega
 have h2:(((y %128:Nat):Int)) %18446744073709551616=((y %128:Nat):Int):=by omega
 rw [h1,h2,u64_or_nat _ _ (by omega) (by omega),nat_join 7 _ _ (by omega) (by omega)]
 congr 1
 omega
theorem CN {l:List UInt8} {k j:Nat} {y:UInt8} (hy:l[j]?=some y) (hj:j < k):nZ ((l.take k).drop j)=y.toNat %128+128*nZ ((l.take k).drop (j+1)):=by
 have h:(l.take k)[j]?=some y:=by rw [cT,aJ hj];exact hy
 obtain⟨KC,he⟩:=aN.1 h;rw [cq KC,nZ,he]
theorem tj:∀(f n:Nat),n < 128^f ->nZ (jD f n)=n
 | 0,n,h=>by
  simp at h;subst h;rfl
 | f+1,n,h=>by
  rw [jD];split
  ·rw [nZ,nZ,fM (by omega)]
   omega
  ·rw [nZ,fM (by omega),tj f (n/128) (by rw [Nat.pow_succ]at h;omega)]
   omega
theorem ru {n:Nat} (h:n < 18446744073709551616):nZ (eP n)=n:=tj 10 n (by omega)
theorem Bs {bits:Int} {l:List UInt8} {k x:Nat} (he:(fc bits l).2=0) (hk:k=(fc bits l).1) (hx:x=nZ (l.take k) %18446744073709551616)
  (hs:(l.take k==eP x)=true) (hr:if bits < 64 then(x:Int)/2^bits.toNat=0 else True):ib bits l=(x,k,0):=by
 obtain⟨h1,h2,_⟩:=jf he;have hs':l.take k=eP x:=by simpa using hs
 have Ng:x < 18446744073709551616:=by omega
 have hv:nZ (l.take k)=x:=by rw [hs'];exact ru Ng
 have KC:x < 2^bits.toNat:=by
  by_cases h:bits < 64
  ·rw [aJ h]at hr
   have h0:((x/2^bits.toNat:Nat):Int)=0:=by rw [<- hr];simp
   have h3:x/2^bits.toNat=0:=by omega
   rcases bC x (2^bits.toNat)with h4 | h4
   ·exact h4
   ·have:=Nat.div_pos h4 (Nat.two_pow_pos _)
    omega
  ·obtain rfl:bits=64:=by omega
   exact Ng
 rw [ib,aC (by rw [he];simp), <- hk,hv,aJ ⟨hs'.symm,KC⟩]
theorem zV {bits:Int} {l:List UInt8} {k x:Nat} (he:(fc bits l).2=0) (hk:k=(fc bits l).1) (hx:x=nZ (l.take k) %18446744073709551616)
  (hs:(l.take k==eP x)=false\/¬ (if bits < 64 then(x:Int)/2^bits.toNat=0 else True)):ib bits l=(0,0,1):=by
 obtain⟨h1,h2,_⟩:=jf he;rw [ib,aC (by rw [he];simp), <- hk,aC];rintro⟨h3,h4⟩;have h5:2^bits.toNat <=18446744073709551616:=by
  have:2^bits.toNat <=2^64:=cP (by omega) (by omega);exact this
 have hv:x=nZ (l.take k):=by omega
 rcases hs with h | h
 ·rw [hv,h3]at h
  simp at h
 ·apply h
  split
  ·have h6:x/2^bits.toNat=0:=Nat.div_eq_of_lt (by omega)
   have h7:((x/2^bits.toNat:Nat):Int)=0:=by omega
   rw [<- h7];simp
  ·trivial
def J8 (bits:Int) (l:List UInt8) (w:World) (e:Ending) (w':World):Prop:=
 e= .returned (.tuple #[.int .u64 (ib bits l).1, .int .i64 (ib bits l).2.1, .int .i64 (ib bits l).2.2])/\Below w.heap.size w w'
def UJ (l:List UInt8) (k:Nat) (w w':World) (x i:Nat):Prop:=w'=w/\i <=k/\x=nZ ((l.take k).drop i) %18446744073709551616
theorem tx (b:Value) (l:List UInt8) (bits:Int) (w:World) (hb:eJ w b l) (KJ: -9223372036854775808 <=bits) (Kx:bits <=9223372036854775807):
  Calls prog 208 #[b, .int .i64 bits] w (J8 bits l w):=by
 by_cases he:(fc bits l).2=0
 ·obtain⟨k,hk⟩:∃k,k=(fc bits l).1:=⟨_,rfl⟩
  have HK:=V hk;have Pz:=V hb;obtain⟨K9,Mr,LN,KB,K7⟩:=jf he;have Po:1 <=k:=by omega
  have Ls:k <=l.length:=by omega
  have O9:k <=10:=by omega
  clear LN KB K7;obtain⟨a,cap,rfl,hl,hm,hc⟩:=hb;unfold maxLen at hm;have HC:=V hc;have HE:=V he;clear hc hk he;go_enter func208,ntmps208;go_wp2;refine kg 0 (fun a' w'=>∃(x i:Nat) (u8 QC P0 QD QE QF u16 QG QH QI u20 u21 u22 u23 u24 u25 u26 u27 u28 u29 u30 u31 u32 u33 u34 u35 u36 u37 u38 u39 u40 u41 u42 u43 u44 u45 u46 u47 u48 u49 u50 u51 u52:Value),a'={tmps:=#[.slice a l.length cap, .int .i64 bits,undef,undef, .int .u64 0, .int .i64 0, .int .i64 0, .int .i64 k,u8, .int .u64 x, .int .i64 i,QC,P0,QD,QE,QF,u16,QG,QH,QI,u20,u21,u22,u23,u24,u25,u26,u27,u28,u29,u30,u31,u32,u33,u34,u35,u36,u37,u38,u39,u40,u41,u42,u43,u44,u45,u46,u47,u48,u49,u50,u51,u52],defers:=[]}/\UJ l k w w' x i) (fun a' _=>(intOf (a'.tmps.getD 10 undef)).toNat) rfl ?_ ?_
  ·rintro a' w1 ⟨x,i,u8,QC,P0,QD,QE,QF,u16,QG,QH,QI,u20,u21,u22,u23,u24,u25,u26,u27,u28,u29,u30,u31,u32,u33,u34,u35,u36,u37,u38,u39,u40,u41,u42,u43,u44,u45,u46,u47,u48,u49,u50,u51,u52,rfl,hJ⟩
   obtain⟨rfl,hik,hx⟩:=hJ;have HX:=V hx;clear hx;by_cases hi:i=0
   ·subst hi
    rw [List.drop_zero]at HX;have Ng:x < 18446744073709551616:=by have:=HX.out;omega
    have hbt:eJ w1 (.slice a k cap) (l.take k):=Pz.out.take k Ls;have HBT:=V hbt;clear hbt;by_cases hs:(l.take k==eP x)=true
    ·by_cases h64:bits < 64
     ·have hd:decide (bits < 64)=true:=by simpa using h64
      by_cases hr:(x:Int)/2^bits.toNat=0
      ·have Pa:(((x:Int)/2^bits.toNat) !=0)=false:=by simp [hr]
       have ND:(((x:Int)/2^bits.toNat)==0)=true:=by simp [hr]
       have HR:=V hr;clear hr;have HS:=V hs;clear hs;go_wp2_with fail;refine ef (fun _=>True) (up 0 4 ((4,false)::(5,false)::up 6 11 [])) (by kernel_rfl) (by kernel_rfl) trivial ?_;iterate 4 (first | (apply sk rfl rfl;simp only [pt]) | (apply dV rfl rfl rfl;·(intro w' _;go_wp2;exact⟨rfl,rfl,rfl⟩)))
       refine ed rfl rfl ?_;go_wp2_with (go_at_call 235;refine(je _ [] x Ng w1.heap.size _ (dX.nil _ _) (by simp) (by simp)).mono ?_;rintro e w2 ⟨v2,rfl,KQ,KB,KG⟩);have Kx:=fN (KB.below (ag _) (by intro i hi;cases hi));refine⟨trivial,?_⟩;refine ed rfl rfl ?_;go_wp2_with (go_at_call 269;refine(lL _ _ (l.take k) (eP x) _ (HBT.out.below Kx) KQ.fp).mono ?_;rintro e w3 ⟨rfl,rfl⟩;rw [HS.out]);refine⟨trivial,?_⟩;iterate 11 (first | (apply sk rfl rfl;simp only [pt]) | (apply dV rfl rfl rfl;·(intro w' _;go_wp2;exact⟨rfl,rfl,rfl⟩)))
       refine eL ?_;refine aD ?_;go_wp2;rw [iJ]
       go_ret3
       refine⟨?_,Kx⟩;rw [Bs HE.out HK.out HX.out HS.out (by rw [aJ h64];exact HR.out)];rfl
      ·have Pa:(((x:Int)/2^bits.toNat) !=0)=true:=by simp [hr]
       have ND:(((x:Int)/2^bits.toNat)==0)=false:=by simp [hr]
       have HR:=V hr;clear hr;have HS:=V hs;clear hs;go_wp2_with fail;refine ef (fun _=>True) (up 0 4 ((4,false)::(5,false)::up 6 11 [])) (by kernel_rfl) (by kernel_rfl) trivial ?_;iterate 4 (first | (apply sk rfl rfl;simp only [pt]) | (apply dV rfl rfl rfl;·(intro w' _;go_wp2;exact⟨rfl,rfl,rfl⟩)))
       refine ed rfl rfl ?_;go_wp2_with (go_at_call 235;refine(je _ [] x Ng w1.heap.size _ (dX.nil _ _) (by simp) (by simp)).mono ?_;rintro e w2 ⟨v2,rfl,KQ,KB,KG⟩);have Kx:=fN (KB.below (ag _) (by intro i hi;cases hi));refine⟨trivial,?_⟩;refine ed rfl rfl ?_;go_wp2_with (go_at_call 269;refine(lL _ _ (l.take k) (eP x) _ (HBT.out.below Kx) KQ.fp).mono ?_;rintro e w3 ⟨rfl,rfl⟩;rw [HS.out]);refine⟨trivial,?_⟩;iterate 11 (first | (apply sk rfl rfl;simp only [pt]) | (apply dV rfl rfl rfl;·(intro w' _;go_wp2;exact⟨rfl,rfl,rfl⟩)))
       refine eL ?_;refine aD ?_;go_wp2;rw [iJ]
       go_ret3
       refine⟨?_,Kx⟩;rw [zV HE.out HK.out HX.out (.inr (by rw [aJ h64];exact HR.out))];rfl
     ·have hd:decide (bits < 64)=false:=by simpa using h64
      have HS:=V hs;clear hs;go_wp2_with fail;refine ef (fun _=>True) (up 0 4 ((4,false)::(5,false)::up 6 11 [])) (by kernel_rfl) (by kernel_rfl) trivial ?_;iterate 4 (first | (apply sk rfl rfl;simp only [pt]) | (apply dV rfl rfl rfl;·(intro w' _;go_wp2;exact⟨rfl,rfl,rfl⟩)))
      refine ed rfl rfl ?_;go_wp2_with (go_at_call 235;refine(je _ [] x Ng w1.heap.size _ (dX.nil _ _) (by simp) (by simp)).mono ?_;rintro e w2 ⟨v2,rfl,KQ,KB,KG⟩);have Kx:=fN (KB.below (ag _) (by intro i hi;cases hi));refine⟨trivial,?_⟩;refine ed rfl rfl ?_;go_wp2_with (go_at_call 269;refine(lL _ _ (l.take k) (eP x) _ (HBT.out.below Kx) KQ.fp).mono ?_;rintro e w3 ⟨rfl,rfl⟩;rw [HS.out]);refine⟨trivial,?_⟩;iterate 11 (first | (apply sk rfl rfl;simp only [pt]) | (apply dV rfl rfl rfl;·(intro w' _;go_wp2;exact⟨rfl,rfl,rfl⟩)))
      refine eL ?_;refine aD ?_;go_wp2;rw [iJ]
      go_ret3
      refine⟨?_,Kx⟩;rw [Bs HE.out HK.out HX.out HS.out (by rw [aC (by omega)];trivial)];rfl
    ·rw [Bool.not_eq_true]at hs
     have HS:=V hs;clear hs;go_wp2_with fail;refine ef (fun _=>True) (up 0 4 ((4,false)::(5,false)::up 6 11 [])) (by kernel_rfl) (by kernel_rfl) trivial ?_;iterate 4 (first | (apply sk rfl rfl;simp only [pt]) | (apply dV rfl rfl rfl;·(intro w' _;go_wp2;exact⟨rfl,rfl,rfl⟩)))
     refine ed rfl rfl ?_;go_wp2_with (go_at_call 235;refine(je _ [] x Ng w1.heap.size _ (dX.nil _ _) (by simp) (by simp)).mono ?_;rintro e w2 ⟨v2,rfl,KQ,KB,KG⟩);have Kx:=fN (KB.below (ag _) (by intro i hi;cases hi));refine⟨trivial,?_⟩;refine ed rfl rfl ?_;go_wp2_with (go_at_call 269;refine(lL _ _ (l.take k) (eP x) _ (HBT.out.below Kx) KQ.fp).mono ?_;rintro e w3 ⟨rfl,rfl⟩;rw [HS.out]);refine⟨trivial,?_⟩;iterate 11 (first | (apply sk rfl rfl;simp only [pt]) | (apply dV rfl rfl rfl;·(intro w' _;go_wp2;exact⟨rfl,rfl,rfl⟩)))
     refine eL ?_;refine aD ?_;go_wp2;rw [iJ]
     go_ret3
     refine⟨?_,Kx⟩;rw [zV HE.out HK.out HX.out (.inl HS.out)];rfl
   ·obtain⟨j,rfl⟩:∃j,i=j+1:=⟨i - 1,by omega⟩
    obtain⟨y,hy⟩:∃y,l[j]?=some y:=⟨_,aq (show j < l.length by omega)⟩;obtain⟨b,off,rfl,hc⟩:=HC.out j y hy;have hy8:=y.toNat_lt;have HY:=V hy;clear hy;have KC:j < l.length:=by omega
    go_wp2_with fail
    go_step3
    simp only [Exit.then];rw [JI x y.toNat hy8];refine ly ⟨_,j,_,_,_,_,_,_,_,_,_,_,_,_,_,_,_,_,_,_,_,_,_,_,_,_,_,_,_,_,_,_,_,_,_,_,_,_,_,_,_,_,_,_,_,rfl,rfl,by omega,?_⟩ ?_
    ·rw [CN HY.out (by omega),HX.out]
     omega
    ·simp [intOf]
  ·intro H
   have Hh:=V H;clear H;go_wp2_with (go_at_call 268;refine(mG _ l _ _ Pz.out (by omega) (by omega)).mono ?_;rintro e w' ⟨rfl,rfl⟩;rw [HE.out, <- HK.out])
   go_step3
   go_step
   go_step
   refine Hh.out _ _ ⟨0,k,_,_,_,_,_,_,_,_,_,_,_,_,_,_,_,_,_,_,_,_,_,_,_,_,_,_,_,_,_,_,_,_,_,_,_,_,_,_,_,_,_,_,_,rfl,rfl,ag _,?_⟩;rw [List.drop_eq_nil_of_le (by rw [aS];omega)];rfl
 ·have HE:=V he
  have Pz:=V hb;have HB:=V (dS he);clear he hb;go_enter func208,ntmps208;go_wp2
  go_step3
  go_wp2_with (go_at_call 268;refine(mG _ l _ _ Pz.out (by omega) (by omega)).mono ?_;rintro e w' ⟨rfl,rfl⟩;have hb:=HB.out);rw [Exit.noGoto_ret]
  go_ret3
  refine⟨?_,an _ _⟩;rw [ib,aJ HE.out];rfl
def iB:Nat ->Int ->List UInt8
 | 0,_=>[]
 | f+1,n=>if -64 <=n/\n < 64 then [b8 (n %128).toNat]else b8 ((n %128).toNat+128)::iB f (n/128)
def ie (n:Int):List UInt8:=iB 10 n
def JG (xs:List UInt8) (u:Int) (B:Nat) (b:Value) (w w':World) (v:Value) (n:Int):Prop:=
 ∃(ys:List UInt8) (k f:Nat),dX w' B v ys/\dU (eA b) w w'/\eE w b v/\ys.length <=xs.length+k/\k+f=9/\ -((128:Int)^f) <=n/\n < 128^f/\ys++iB (f+1) n=xs++iB 10 u
def GQ (xs:List UInt8) (u:Int) (B:Nat) (b:Value) (w:World) (e:Ending) (w':World):Prop:=
 ∃v,e= .returned v/\dX w' B v (xs++ie u)/\dU (eA b) w w'/\eE w b v
theorem um (n:Int):bits .andNot .u8 (n %256) 128=n %128:=by
 obtain⟨m,hm⟩:∃m:Nat,(m:Int)=n %256:=⟨(n %256).toNat,by omega⟩;rw [<- hm,IK m (by omega)];omega
theorem I8:∀x:Fin 128,x.val&&&64=if x.val < 64 then 0 else 64:=by decide+kernel
theorem AK (n:Int):bits .and .u8 (n %128) 64=if n %128 < 64 then 0 else 64:=by
 obtain⟨m,hm⟩:∃m:Nat,(m:Int)=n %128:=⟨(n %128).toNat,by omega⟩;have h0:=u8_and_nat m 64 (by omega) (by omega);rw [I8 ⟨m,by omega⟩]at h0;rw [<- hm];refine h0.trans ?_;by_cases h:m < 64
 ·rw [aJ h,aJ (by omega)];rfl
 ·rw [aC h,aC (by omega)];rfl
theorem Il (n:Int):bits .andNot .u8 (n %256) 128=((b8 (n %128).toNat).toNat:Int):=by
 rw [um,fM (by omega)];omega
theorem Fi (n:Int):bits .or .u8 (bits .andNot .u8 (n %256) 128) 128=((b8 ((n %128).toNat+128)).toNat:Int):=by
 rw [um,fM (by omega)];obtain⟨m,hm⟩:∃m:Nat,(m:Int)=n %128:=⟨(n %128).toNat,by omega⟩;rw [<- hm,tq m (by omega)];omega
theorem mQ (b:Value) (xs:List UInt8) (u:Int) (h0: -9223372036854775808 <=u) (h1:u <=9223372036854775807) (B:Nat) (w:World) (Ku:dX w B b xs) (hn:xs.length <=1000000000) (hB:B <=w.heap.size):
  Calls prog 236 #[b, .int .i64 u] w (GQ xs u B b w):=by
 go_enter func236,ntmps236;go_wp2;refine kg 0 (fun a' w'=>∃(v:Value) (n:Int) (u5 u6 u7 u8 u9 u10 QC P0 QD QE QF u16 QG QH QI u20 u21 u22 u23 u24 u25 u26 u27 u28 u29 u30 u31 u32 u33 u34 u35:Value),a'={tmps:=#[v, .int .i64 n,undef,undef, .slice none 0 0,u5,u6,u7,u8,u9,u10,QC,P0,QD,QE,QF,u16,QG,QH,QI,u20,u21,u22,u23,u24,u25,u26,u27,u28,u29,u30,u31,u32,u33,u34,u35],defers:=[]}/\JG xs u B b w w' v n) (fun a' _=>(intOf (a'.tmps.getD 1 undef)).natAbs) rfl ?_ ?_
 ·rintro a' w1 ⟨v,n,u5,u6,u7,u8,u9,u10,QC,P0,QD,QE,QF,u16,QG,QH,QI,u20,u21,u22,u23,u24,u25,u26,u27,u28,u29,u30,u31,u32,u33,u34,u35,rfl,hJ⟩
  obtain⟨ys,k,f,N8,hk,hs,hlen,hkf,hnf1,hnf2,heq⟩:=hJ;have HE:=V heq;have HK:=V hkf;have hk9:k <=9:=by omega
  clear heq hkf Ku;have Lr:=hk.size;have hc:=AK n;rw [<- um]at hc;have HC:=V hc;clear hc;by_cases n0:n/128=0
  ·by_cases n1:n %128 < 64
   ·have e1:=eH n0
    have e2:(bits .and .u8 (bits .andNot .u8 (n %256) 128) 64==0)=true:=by rw [HC.out,um,aJ n1];rfl
    have LB: -64 <=n/\n < 64:=by omega
    clear n0;have HS:=V LB;clear LB;go_wp2_with (first | (at_builtin;refine eY w1 rfl _ _ rfl rfl B v ys rfl N8 (b8 (n %128).toNat) _ (Il n) rfl ?_ ?_ ?_))
    ·omega
    ·omega
    ·intro v' w2 KQ KB KG
     go_wp2;rw [iJ];go_ret;refine⟨v',rfl,?_,hk.trans KB ?_,hs.trans KG Lr⟩
     ·have h:=HE.out
      rw [iB,aJ HS.out]at h;rw [ie, <- h];exact KQ
     ·exact fun i hi=>hs i hi
   ·have e1:=eH n0
    have e2:(bits .and .u8 (bits .andNot .u8 (n %256) 128) 64==0)=false:=by rw [HC.out,um,aC n1];rfl
    have e3:=dS (a:=n/128) (b:= -1) (by omega);have LB:¬ (-64 <=n/\n < 64):=by omega
    clear n0;have HS:=V LB;clear LB;go_wp2_with (first | (at_builtin;refine eY w1 rfl _ _ rfl rfl B v ys rfl N8 (b8 ((n %128).toNat+128)) _ (Fi n) rfl ?_ ?_ ?_))
    ·omega
    ·omega
    ·intro v' w2 KQ KB KG
     go_wp2
     go_step3
     have LB:=HS.out;have hf:f≠0:=by
      rintro rfl;omega
     obtain⟨f',rfl⟩:∃f',f=f'+1:=⟨f - 1,by omega⟩;refine ly ⟨v',n/128,_,_,_,_,_,_,_,_,_,_,_,_,_,_,_,_,_,_,_,_,_,_,_,_,_,_,_,_,_,_,_,rfl,ys++[b8 ((n %128).toNat+128)],k+1,f',KQ,hk.trans KB (fun i hi=>hs i hi),hs.trans KG Lr,?_,?_,?_,?_,?_⟩ ?_
     ·simp
      omega
     ·have:=HK.out
      omega
     ·rw [bU]at hnf1
      omega
     ·rw [bU]at hnf2
      omega
     ·have h:=HE.out
      rw [iB,aC LB]at h;rw [<- h];simp
     ·simp [intOf]
      omega
  by_cases n0:n/128= -1
  ·by_cases n1:n %128 < 64
   ·have e1:=eH n0
    have e2:(bits .and .u8 (bits .andNot .u8 (n %256) 128) 64 !=0)=false:=by rw [HC.out,um,aJ n1];rfl
    have e3:=dS (a:=n/128) (b:=0) (by omega);have LB:¬ (-64 <=n/\n < 64):=by omega
    clear n0;have HS:=V LB;clear LB;go_wp2_with (first | (at_builtin;refine eY w1 rfl _ _ rfl rfl B v ys rfl N8 (b8 ((n %128).toNat+128)) _ (Fi n) rfl ?_ ?_ ?_))
    ·omega
    ·omega
    ·intro v' w2 KQ KB KG
     go_wp2
     go_step3
     have LB:=HS.out;have hf:f≠0:=by
      rintro rfl;omega
     obtain⟨f',rfl⟩:∃f',f=f'+1:=⟨f - 1,by omega⟩;refine ly ⟨v',n/128,_,_,_,_,_,_,_,_,_,_,_,_,_,_,_,_,_,_,_,_,_,_,_,_,_,_,_,_,_,_,_,rfl,ys++[b8 ((n %128).toNat+128)],k+1,f',KQ,hk.trans KB (fun i hi=>hs i hi),hs.trans KG Lr,?_,?_,?_,?_,?_⟩ ?_
     ·simp
      omega
     ·have:=HK.out
      omega
     ·rw [bU]at hnf1
      omega
     ·rw [bU]at hnf2
      omega
     ·have h:=HE.out
      rw [iB,aC LB]at h;rw [<- h];simp
     ·simp [intOf]
      omega
   ·have e1:=eH n0
    have e2:(bits .and .u8 (bits .andNot .u8 (n %256) 128) 64 !=0)=true:=by rw [HC.out,um,aC n1];rfl
    have e3:=dS (a:=n/128) (b:=0) (by omega);have LB: -64 <=n/\n < 64:=by omega
    clear n0;have HS:=V LB;clear LB;go_wp2_with (first | (at_builtin;refine eY w1 rfl _ _ rfl rfl B v ys rfl N8 (b8 (n %128).toNat) _ (Il n) rfl ?_ ?_ ?_))
    ·omega
    ·omega
    ·intro v' w2 KQ KB KG
     go_wp2;rw [iJ];go_ret;refine⟨v',rfl,?_,hk.trans KB ?_,hs.trans KG Lr⟩
     ·have h:=HE.out
      rw [iB,aJ HS.out]at h;rw [ie, <- h];exact KQ
     ·exact fun i hi=>hs i hi
  ·have e1:=dS (a:=n/128) (b:=0) (by omega)
   have e2:=dS (a:=n/128) (b:= -1) (by omega);have LB:¬ (-64 <=n/\n < 64):=by omega
   have HS:=V LB;clear LB;go_wp2_with (first | (at_builtin;refine eY w1 rfl _ _ rfl rfl B v ys rfl N8 (b8 ((n %128).toNat+128)) _ (Fi n) rfl ?_ ?_ ?_))
   ·omega
   ·omega
   ·intro v' w2 KQ KB KG
    go_wp2
    go_step3
    have LB:=HS.out;have hf:f≠0:=by
     rintro rfl;omega
    obtain⟨f',rfl⟩:∃f',f=f'+1:=⟨f - 1,by omega⟩;refine ly ⟨v',n/128,_,_,_,_,_,_,_,_,_,_,_,_,_,_,_,_,_,_,_,_,_,_,_,_,_,_,_,_,_,_,_,rfl,ys++[b8 ((n %128).toNat+128)],k+1,f',KQ,hk.trans KB (fun i hi=>hs i hi),hs.trans KG Lr,?_,?_,?_,?_,?_⟩ ?_
    ·simp
     omega
    ·have:=HK.out
     omega
    ·rw [bU]at hnf1
     omega
    ·rw [bU]at hnf2
     omega
    ·have h:=HE.out
     rw [iB,aC LB]at h;rw [<- h];simp
    ·simp [intOf]
     omega
 ·intro H
  apply wp_seq_k;intro K hK;apply wp_label;apply hK;exact H _ _ ⟨b,u,_,_,_,_,_,_,_,_,_,_,_,_,_,_,_,_,_,_,_,_,_,_,_,_,_,_,_,_,_,_,_,rfl,xs,0,9,Ku,dU.refl _ _,eE.refl _ _,by omega,rfl,by omega,by omega,rfl⟩
section
def eG (w:World) (X:Nat) (xs:Array Value) (t:TypeId):Prop:=w.heap[X]?=some (.cells xs t)
section
variable {w w':World} {X:Nat} {xs:Array Value} {t:TypeId}
theorem eG.lt (h:eG w X xs t):X < w.heap.size:=(cg.1 h).1
theorem eG.new (w:World) (xs:Array Value) (t:TypeId):eG (w.alloc (.cells xs t)) w.heap.size xs t:=dt w _
theorem eG.keeps {S:Nat ->Prop} (h:eG w X xs t) (hk:dU S w w') (hs:¬ S X):eG w' X xs t:=(hk.block X h.lt hs).trans h
theorem eG.below {B:Nat} (h:eG w X xs t) (hb:Below B w w') (hX:X < B):eG w' X xs t:=(hb.block X hX).trans h
theorem eG.alloc (h:eG w X xs t) (o:Obj):eG (w.alloc o) X xs t:=h.below ((an w.heap.size w).alloc (ag _) o) h.lt
theorem eG.drew (h:eG w X xs t):eG w.drew X xs t:=h
theorem eG.cell (h:eG w X xs t) (i:Nat):w.cell? ⟨X,i,none⟩=xs[i]?:=by
 have:=cell_of_row w X i xs _ _ h;simpa using this
theorem eG.free (h:eG w X xs t) (i:Nat):w.frozen? ⟨X,i,none⟩=false:=cY w X i xs _ h
theorem eG.set (h:eG w X xs t) (i:Nat) (v:Value):eG (w.setCell ⟨X,i,none⟩ v) X (xs.setIfInBounds i v) t:=heap_setCell_same w X i xs _ _ h
theorem eG.other (h:eG w X xs t) (a:Addr) (v:Value) (ha:X≠a.block):eG (w.setCell a v) X xs t:=(cL w a v X ha).trans h
theorem eG.four {x0 x1 x2 x3:Value} (h:eG w X #[x0,x1,x2,x3] t):
  (w.cell? ⟨X,0,none⟩=some x0/\w.cell? ⟨X,1,none⟩=some x1/\w.cell? ⟨X,2,none⟩=some x2/\w.cell? ⟨X,3,none⟩=some x3)/\
  w.frozen? ⟨X,0,none⟩=false/\w.frozen? ⟨X,1,none⟩=false/\w.frozen? ⟨X,2,none⟩=false/\w.frozen? ⟨X,3,none⟩=false:=
 ⟨⟨h.cell 0,h.cell 1,h.cell 2,h.cell 3⟩,h.free 0,h.free 1,h.free 2,h.free 3⟩
theorem eG.ry {x0 x1 x2 x3:Value} (h:eG w X #[x0,x1,x2,x3] t) (y0 y1 y2 y3:Value):
  eG ((((w.setCell ⟨X,0,none⟩ y0).setCell ⟨X,1,none⟩ y1).setCell ⟨X,2,none⟩ y2).setCell ⟨X,3,none⟩ y3) X #[y0,y1,y2,y3] t:=by
 have:=(((h.set 0 y0).set 1 y1).set 2 y2).set 3 y3;simpa using this
theorem fe {P:Program} {fn:Func} {t0 u0:Tmp} {ty:TypeId} (h:fn.results=#[.cell t0 ty, .tmp u0]) (tmps:Array Value) (w:World) {a:Addr} {v:Value} (ht:tmps.getD t0 undef= .pointer (some a))
  (hl:(loadVar ty a).run P w= .ok v w):(results fn tmps).run P w= .ok (.tuple #[v,tmps.getD u0 undef]) w:=by
 have ht':tmps[t0]?.getD undef= .pointer (some a):=by simpa using ht
 simp [results,h,ht',asAddr,hl]
end
end
def ko (w:World) (e:Ending) (w':World):Prop:=e= .returned (.bool true)/\Below w.heap.size w w'
theorem dY {a b c:World} (h:Below a.heap.size a b) (k:Below b.heap.size b c):Below a.heap.size a c:=h.trans (k.mono h.size)
theorem jy {a b:World} {v:Value} (h:dU (eA v) a b) (hv:v.ownBlock=none):Below a.heap.size a b:=h.below (ag _) (fun i hi=>by rw [eA,hv]at hi;cases hi)
theorem eF (n:Nat):1 <=(eP n).length/\(eP n).length <=10:=by
 have h:∀f n,(jD f n).length <=f:=by
  intro f
  induction f with
  | zero=>intro n;simp [jD]
  | succ f ih=>
   intro n;rw [jD];split
   ·simp
   ·have:=ih (n/128)
    simp;omega
 refine⟨?_,h 10 n⟩;rw [eP,jD];split <;>simp
theorem dX.open {w:World} {B:Nat} {v:Value} {l:List UInt8} (h:dX w B v l) (hl:l≠[]):
  ∃g cap,v= .slice (some ⟨g,0,none⟩) l.length cap/\B <=g/\g < w.heap.size/\l.length <=cap/\cap <=maxLen/\(∀i x,l[i]?=some x ->w.cell? ⟨g,i,none⟩=some (bv x))/\∀i,w.frozen? ⟨g,i,none⟩=false:=by
 have hi:=h.fp;obtain⟨h1,h2 | ⟨g,cap,cur,hv,hb,hg,hn,hm,hs,ht⟩⟩:=h
 ·exact absurd (aH h2.2) hl
 ·refine⟨g,cap,hv,hb,(cg.1 hg).1,hn,hm,fun i x hx=>?_,fun i=>cY w g i cur _ hg⟩
  obtain⟨a,c,Pp,_,_,hc⟩:=hi;obtain⟨b,off,ha,Ln⟩:=hc i x hx;rw [hv]at Pp;injection Pp with e1 e2 e3;subst e1;injection ha with ha;injection ha with e1 e2;subst e1 e2
  rwa [bW]at Ln
def sliceFrom (a:Option Addr) (len cap k:Nat):Value:= .slice (if cap=k then a else a.map (·.add (k*1))) (len - k) (cap - k)
theorem o7 (a:Option Addr) (len cap k:Nat) (hk:k <=len) (w:World):
  (Instr.slice 97 (.slice a len cap) (some (.int .i64 k)) none none).run prog w= .ok (sliceFrom a len cap k) w:=by
 have hu:prog.underlying 97=some (.slice 5):=by kernel_rfl
 obtain⟨i0,hi,M5,LR,Mz⟩:=bX od;simp [Instr.slice,bp hu,Instr.sliceBounds,Instr.sliceBound,sizeOf,typeInfo,hi,LR,asIntOf,hk,sliceFrom]
theorem eJ.drop {w:World} {a:Option Addr} {n cap:Nat} {l:List UInt8} (h:eJ w (.slice a n cap) l) (k:Nat) (hk:k <=l.length):eJ w (sliceFrom a n cap k) (l.drop k):=by
 obtain⟨a',KR,hv,h1,h2,h3⟩:=h;injection hv with e1 e2 e3;subst e1 e2 e3;refine⟨_,cap - k,by rw [sliceFrom,bq],by rw [bq];omega,by simp only [maxLen]at*;omega,fun i x hx=>?_⟩;rw [List.getElem?_drop]at hx;obtain⟨b,off,rfl,hc⟩:=h3 _ x hx;have KC:=(aN.1 hx).1;rw [aC (by omega)];refine⟨b,off+k,?_,?_⟩
 ·simp only [bE,bo]
  unfold Addr.add;split <;>simp_all
 ·rw [Nat.add_assoc]
  exact hc
theorem oC (p:List UInt8) (z:UInt8) (rest:List UInt8) (hp:∀y∈p,128 <=y.toNat) (hz:z.toNat < 128):cont (p++z::rest)=p.length:=by
 induction p with
 | nil=>simp [cont];omega
 | cons x p ih=>
  rw [bI,cont,aJ (hp x (by simp)),ih (fun y hy=>hp y (by simp [hy]))];rfl
theorem rf:∀(f n:Nat),n < 128^(f+1) ->∃p z,jD (f+1) n=p++[z]/\(∀y∈p,128 <=y.toNat)/\z.toNat < 128/\p.length <=f:=by
 intro f
 induction f with
 | zero=>
  intro n h;exact⟨[],b8 n,by rw [jD,aJ (by omega)];rfl,by simp,by rw [fM (by omega)];omega,ag _⟩
 | succ f ih=>
  intro n h;rw [jD];split
  ·exact⟨[],b8 n,rfl,by simp,by rw [fM (by omega)];omega,by simp⟩
  ·obtain⟨p,z,h1,h2,h3,h4⟩:=ih (n/128) (by rw [Nat.pow_succ]at h;omega)
   refine⟨b8 (n %128+128)::p,z,by rw [h1];rfl,fun y hy=>?_,h3,by simpa using h4⟩;rcases bB.1 hy with rfl | hy
   ·rw [fM (by omega)]
    omega
   ·exact h2 y hy
theorem oS:∀(f:Nat) (n:Int),-((128:Int)^(f+1)) <=2*n ->2*n < 128^(f+1) ->∃p z,iB (f+1) n=p++[z]/\(∀y∈p,128 <=y.toNat)/\z.toNat < 128/\p.length <=f:=by
 intro f
 induction f with
 | zero=>
  intro n h h';exact⟨[],b8 (n %128).toNat,by rw [iB,aJ (by omega)];rfl,by simp,by rw [fM (by omega)];omega,ag _⟩
 | succ f ih=>
  intro n h h';rw [iB];split
  ·exact⟨[],b8 (n %128).toNat,rfl,by simp,by rw [fM (by omega)];omega,by simp⟩
  ·rw [bU,bU]at h h'
   obtain⟨p,z,h1,h2,h3,h4⟩:=ih (n/128) (by rw [bU];omega) (by rw [bU];omega);refine⟨b8 ((n %128).toNat+128)::p,z,by rw [h1];rfl,fun y hy=>?_,h3,by simpa using h4⟩;rcases bB.1 hy with rfl | hy
   ·rw [fM (by omega)]
    omega
   ·exact h2 y hy
theorem CK {L p q:List UInt8} (hL:L=p++q) (a:Option Addr) (cap:Nat):∃a2 KA,
  (∀wx,(Instr.slice 97 (.slice a L.length cap) (some (.int .i64 p.length)) none none).run prog wx= .ok (.slice a2 q.length KA) wx)/\
  ∀wy,eJ wy (.slice a L.length cap) L ->eJ wy (.slice a2 q.length KA) q:=by
 have hle:p.length <=L.length:=by rw [hL];simp
 have hd:L.drop p.length=q:=by rw [hL];exact c9
 have hl:L.length - p.length=q.length:=by rw [hL];simp
 refine⟨if cap=p.length then a else a.map (·.add (p.length*1)),cap - p.length,fun wx=>?_,fun wy h=>?_⟩
 ·rw [o7 a L.length cap p.length hle wx,sliceFrom,hl]
 ·have:=h.drop p.length hle
  rw [hd,sliceFrom,hl]at this;exact this
theorem rQ:∀(f n:Nat),n < 128^f ->(jD f n).length <=1\/128^((jD f n).length - 1) <=n
 | 0,n,_=>by simp [jD]
 | f+1,n,h=>by
  rw [jD];split
  ·left;simp
  ·rename_i hge
   right
   rcases rQ f (n/128) (by rw [Nat.pow_succ]at h;omega)with h1 | h1
   ·have:(b8 (n %128+128)::jD f (n/128)).length - 1 <=1:=by simp;exact h1
    have h2:128^((b8 (n %128+128)::jD f (n/128)).length - 1) <=128^1:=cP (by omega) this;omega
   ·rw [aI,dc]
    rcases aZ (jD f (n/128)).length with h0 | h0
    ·rw [h0]
     omega
    ·obtain⟨m,hm⟩:∃m,(jD f (n/128)).length=m+1:=⟨_,(Nat.succ_pred_eq_of_pos h0).symm⟩
     rw [hm]at h1⊢;rw [dc]at h1;rw [Nat.pow_succ];have:=dn 128 h1;omega
theorem Cv:∀(f:Nat) (n:Int),-((128:Int)^(f+1)) <=2*n ->2*n < 128^(f+1) ->(iB (f+1) n).length=1\/((iB (f+1) n).length≠0/\¬ (-(64*128^((iB (f+1) n).length - 2)) <=n/\n < 64*128^((iB (f+1) n).length - 2))):=by
 intro f
 induction f with
 | zero=>
  intro n h h'
  left
  rw [iB,aJ (by omega)];rfl
 | succ f ih=>
  intro n h h';rw [iB];split
  ·left;rfl
  ·rename_i hs
   right
   rw [bU,bU]at h h';obtain h1 | h1:=ih (n/128) (by rw [bU];omega) (by rw [bU];omega)
   ·rw [aI,h1]
    simp;omega
   ·rw [aI]
    obtain⟨h0,h1⟩:=h1;obtain⟨m,hm⟩:∃m,(iB (f+1) (n/128)).length=m+1:=⟨_,(Nat.succ_pred_eq_of_pos (Nat.pos_of_ne_zero h0)).symm⟩;rw [hm]at h1⊢;refine⟨by omega,?_⟩;rcases aZ m with hm0 | hm0
    ·subst hm0
     simp;omega
    ·obtain⟨m',rfl⟩:∃m',m=m'+1:=⟨m - 1,by omega⟩
     rw [show m'+1+1 - 2=m' from by omega]at h1;rw [show m'+1+1+1 - 2=m'+1 from by omega,bU];omega
theorem BV (l:List UInt8):(bs l).size=l.length:=by simp [bs,ByteArray.size]
theorem fO {P:Program} (w:World) {ops:Array Oper} {rest:List Oper} {o:Oper} {a:Act} {Q:Exit ->Act ->World ->Prop} (N0:o.guard=none) (s x:Operand)
  (hP:P=prog) (ho:o.op= .call {callee:= .builtin .append,args:=#[s,x],argTypes:=#[97,97]})
  (B:Nat) (v:Value) (l:List UInt8) (hs:a.eval s=v) (Ku:dX w B v l)
  (b:Value) (m:List UInt8) (hx:a.eval x=b) (hm:eJ w b m)
  (OI:l.length+m.length <=140737488355327) (K3:B <=w.heap.size)
  (h:∀v' w',dX w' B v' (l++m) ->dU (eA v) w w' ->eE w v v' ->wpList P ops Q rest (a.put o.dst v') w'):wpList P ops Q (o::rest) a w:=by
 subst hP;obtain⟨i0,hi,M5,LR,Mz⟩:=bX od;obtain⟨ad,cap,rfl,Mj,Lj,hc3⟩:=hm;cases m with
 | nil=>
  have key:∃v' w',(Builtin.append_ #[97,97] o.type #[v, .slice ad 0 cap]).run prog w= .ok v' w'/\dX w' B v' (l++[])/\dU (eA v) w w'/\eE w v v':=by
   cases ad with
   | some ad=>
    obtain⟨v',w',h1,h2,h3,h4⟩:=sU (P:=prog) w B 97 o.type 5 i0 (.int .u8 0) 1 1 (by kernel_rfl) hi M5 LR Mz rfl (by decide) v l.length (l.map bv) Ku ad 0 cap [] rfl (by simp) (by simp) (by simp only [maxLen];omega) (by omega) K3;exact⟨v',w',h1,by simpa [dX] using h2,h3,h4⟩
   | none=>
    have ht:prog.underlying 97=some (.slice 5):=by kernel_rfl
    rcases Ku.2 with⟨rfl,h0⟩ | ⟨g,KR,cur,rfl,hb,hg,hn,hm,hs,Oa⟩
    ·refine⟨.slice none 0 0,w,?_,by simpa using Ku,dU.refl _ _,eE.refl _ _⟩
     simp [Builtin.append_,bp ht,sizeOf,typeInfo,hi,Builtin.lenOf,Builtin.firstCells]
    ·refine⟨.slice (some ⟨g,0,none⟩) l.length KR,w,?_,by simpa using Ku,dU.refl _ _,eE.refl _ _⟩
     simp [Builtin.append_,bp ht,sizeOf,typeInfo,hi,Builtin.lenOf,Builtin.firstCells,hn];simp [storeCells]
  obtain⟨v',w',hr,h2,h3,h4⟩:=key;refine dN N0 fun _ hK=>?_;unfold Oper.wp execOp;simp only [ho,resolve,invoke,builtin,cK,cd,cz,du,bA,cS,hs,hx,hr,aK];exact hK _ _ (h v' w' h2 h3 h4)
 | cons y m=>
  obtain⟨b,off,rfl,_⟩:=hc3 0 y rfl;refine qA (P:=prog) w N0 s x 97 ho B 5 i0 (.int .u8 0) 1 1 (by kernel_rfl) hi M5 LR Mz rfl (by decide) v l.length (l.map bv) hs Ku ⟨b,off,none⟩ (y::m).length cap ((y::m).map bv) hx (by simp) ?_ (Aw _) (by simp only [maxLen];omega) (by omega) K3 ?_
  ·intro j u hu
   rw [cQ]at hu;cases hj:(y::m)[j]? with
   | none=>rw [hj]at hu;cases hu
   | some z=>
    rw [hj]at hu;simp at hu;subst hu;obtain⟨b',off',he,hc⟩:=hc3 j z hj;injection he with he;injection he with e1 e2;subst e1 e2;have Oq:(⟨b,off,none⟩:Addr).add j=⟨b,off+j,none⟩:=by
     unfold Addr.add;split <;>simp_all
    rw [Oq];exact hc
  ·intro v' w' h2 h3 h4
   refine h v' w' ?_ h3 h4;rw [dX,ah,cn];exact h2
section
section
variable {α:Type} {k:Nat} {enc:α ->List Value}
def eg (k:Nat) (enc:α ->List Value) (w:World) (v:Value) (l:List α):Prop:=
 ∃a cap,v= .slice a l.length cap/\l.length <=cap/\cap <=maxLen/\∀i x,l[i]?=some x ->∃b off,a=some ⟨b,off,none⟩/\b < w.heap.size/\∀j u,(enc x)[j]?=some u ->w.cell? ⟨b,off+i*k+j,none⟩=some u
theorem eg.below {w w':World} {v:Value} {l:List α} (h:eg k enc w v l) (hb:Below w.heap.size w w'):eg k enc w' v l:=by
 obtain⟨a,cap,hv,h1,h2,h3⟩:=h;refine⟨a,cap,hv,h1,h2,fun i x hx=>?_⟩;obtain⟨b,off,ha,KC,hc⟩:=h3 i x hx;exact⟨b,off,ha,bH KC hb.size,fun j u hu=>by rw [hb.cell KC];exact hc j u hu⟩
theorem eg.nil (w:World):eg k enc w (.slice none 0 0) []:=⟨none,0,rfl,ag _,by simp [maxLen],by simp⟩
theorem jQ (hk:∀x,(enc x).length=k) (l:List α):(l.flatMap enc).length=l.length*k:=by
 induction l with
 | nil=>simp
 | cons e l ih=>simp only [bP,ah,aI,ih,hk];rw [cR,Nat.one_mul,Nat.add_comm]
theorem qJ (hk:∀x,(enc x).length=k):∀(l:List α) (i:Nat) (x:α) (j:Nat),l[i]?=some x ->j < k ->(l.flatMap enc)[i*k+j]?=(enc x)[j]?
 | [],i,x,j,h,_=>by simp at h
 | d::l,0,x,j,h,hj=>by
  simp at h;subst h;rw [bP,bu (by rw [hk];omega)];simp
 | d::l,i+1,x,j,h,hj=>by
  rw [bP,bg (by rw [hk,cR];omega)];rw [show(i+1)*k+j - (enc d).length=i*k+j from by rw [hk,cR];omega];exact qJ hk l i x j (by simpa using h) hj
def dT (t:TypeId) (k:Nat) (enc:α ->List Value) (w:World) (B:Nat) (v:Value) (l:List α):Prop:=w.ownsRow B t k v l.length (l.flatMap enc)
variable {t:TypeId}
theorem dT.nil (w:World) (B:Nat):dT t k enc w B (.slice none 0 0) []:=World.ownsRow_nil w B _ _
theorem dT.keeps {w w':World} {S:Nat ->Prop} {B:Nat} {v:Value} {l:List α} (h:dT t k enc w B v l) (hk:dU S w w') (hs:∀k,eA v k ->¬ S k):dT t k enc w' B v l:=mC h hk hs
theorem dT.below {w w':World} {B:Nat} {v:Value} {l:List α} (h:dT t k enc w B v l) (hk:Below w.heap.size w w'):dT t k enc w' B v l:=
 mC h (dU.dW (S:=fun _=>False) hk) (fun _ _ h=>h)
theorem dT.fy {w:World} {B:Nat} {v:Value} {l:List α} (hk:∀x,(enc x).length=k) (h:dT t k enc w B v l):eg k enc w v l:=by
 obtain⟨hl,hv | ⟨g,cap,cur,hv,hb,hg,hn,hm,hs,ht⟩⟩:=h
 ·obtain⟨rfl,h0⟩:=hv
  obtain rfl:l=[]:=aH h0;exact eg.nil w
 ·refine⟨_,cap,hv,hn,hm,fun i x hx=>⟨g,0,rfl,(cg.1 hg).1,fun j u hu=>?_⟩⟩
  have hj:j < k:=by rw [<- hk x];exact(aN.1 hu).1
  have hi:i < l.length:=(aN.1 hx).1;rw [cell_of_row w g _ cur _ _ hg,bW];have h1:=qJ hk l i x j hx hj;rw [<- ht,cT]at h1;have h2:i*k+j < l.length*k:=by
   have:(i+1)*k <=l.length*k:=dn _ hi;rw [cR]at this;omega
  rw [aJ h2]at h1;rw [<- hu, <- h1];simp
theorem eT {P:Program} (w:World) {ops:Array Oper} {rest:List Oper} {o:Oper} {a:Act} {Q:Exit ->Act ->World ->Prop} (N0:o.guard=none) (s x:Operand) (ts:TypeId)
  (ho:o.op= .call {callee:= .builtin .append,args:=#[s,x],argTypes:=#[ts,ts]})
  (z:Value) (bytes:Nat) (ht:P.underlying ts=some (.slice t)) (hi:(P.info? t).map (fun i=>(i.zero,i.size,i.bytes))=some (some z,k,bytes)) (hzs:z.cells.size=k) (h0:0 < k) (Nf:bytes <=100000000)
  (B:Nat) (v:Value) (l:List α) (hs:a.eval s=v) (Ku:dT t k enc w B v l)
  (y:α) (cs:Array Value) (QA:cs=(enc y).toArray) (hk:(enc y).length=k) (h1:∀u∈enc y,u.oneCell'=true) (hx:a.eval x= .slice (some ⟨w.heap.size,0,none⟩) 1 1)
  (OI:l.length <=1000000) (K3:B <=w.heap.size)
  (h:∀v' w',dT t k enc w' B v' (l++[y]) ->dU (eA v) w w' ->eE w v v' ->wpList P ops Q rest (a.put o.dst v') w'):
  wpList P ops Q (o::rest) a (w.alloc (.cells cs t)):=by
 subst QA;obtain⟨i0,hi,M5,LR,Mz⟩:=bX hi;refine r9 (P:=P) w N0 s x ts ho B t i0 z k bytes ht hi M5 LR Mz hzs h0 v l.length (l.flatMap enc) hs Ku (enc y) hx (by omega) h1 (by simp only [maxLen];omega) ?_ K3 ?_
 ·have:(l.length+1)*bytes <=1000001*100000000:=Nat.mul_le_mul (by omega) Nf
  omega
 ·intro v' w' h2 h3 h4
  refine h v' w' ?_ h3 h4;simpa [dT] using h2
end
theorem eg.keeps {α:Type} {k:Nat} {enc:α ->List Value} {w w':World} {v:Value} {l:List α} {S:Nat ->Prop} (h:eg k enc w v l) (hk:dU S w w') (hs:∀a n cap,v= .slice (some a) n cap ->¬ S a.block):eg k enc w' v l:=by
 obtain⟨a,cap,hv,h1,h2,h3⟩:=h;refine⟨a,cap,hv,h1,h2,fun i x hx=>?_⟩;obtain⟨b,off,ha,KC,hc⟩:=h3 i x hx;refine⟨b,off,ha,bH KC hk.size,fun j u hu=>?_⟩;rw [bm (w:=w) (a:=⟨b,off+i*k+j,none⟩) (hk.block b KC (by rw [hv,ha]at hs;exact hs _ _ _ rfl))];exact hc j u hu
theorem dT.block {α:Type} {t:TypeId} {k:Nat} {enc:α ->List Value} {w:World} {B:Nat} {u:Value} {l:List α} (h:dT t k enc w B u l):∀a n cap,u= .slice (some a) n cap ->B <=a.block/\a.block < w.heap.size:=by
 intro a n cap he;obtain⟨_,⟨hv,_⟩ | ⟨g,KR,cur,hv,hb,hg,_⟩⟩:=h
 ·rw [hv]at he;cases he
 ·rw [hv]at he
  injection he with e1 e2 e3;injection e1 with e1;subst e1;exact⟨hb,(cg.1 hg).1⟩
end
def Br (s:Int):List UInt8 ->Int
 | []=>s
 | x::l=>(x.toNat %128:Nat)+128*Br s l
def pZ (l:List UInt8):Int:=match l.getLast? with
 | some x=>if x.toNat %128 < 64 then 0 else -1
 | none=>0
def yI (l:List UInt8):Int:=Br (pZ l) l
def jq (bits:Int) (l:List UInt8):Int × Nat × Int:=
 if(fc bits l).2≠0 then(0,0,(fc bits l).2)
 else if ie (yI (l.take (fc bits l).1))=l.take (fc bits l).1/\ -(2^(bits.toNat - 1)) <=yI (l.take (fc bits l).1)/\yI (l.take (fc bits l).1) < 2^(bits.toNat - 1)then(yI (l.take (fc bits l).1),(fc bits l).1,0)
 else(0,0,1)
def JX (bits:Int) (l:List UInt8) (w:World) (e:Ending) (w':World):Prop:=
 e= .returned (.tuple #[.int .i64 (jq bits l).1, .int .i64 (jq bits l).2.1, .int .i64 (jq bits l).2.2])/\Below w.heap.size w w'
def Cb (n:Int):Int:=(n+9223372036854775808) %18446744073709551616 - 9223372036854775808
theorem IV (a c:Int) (ha:a %128=0) (h0:0 <=c) (h1:c < 128):bits .or .i64 a c=Cb (a+c):=by
 unfold bits Cb;simp only [IntKind.bits,IntKind.wrap_i64];have e1:(BitVec.ofInt 64 a).toNat=(a %18446744073709551616).toNat:=by simp [BitVec.toNat_ofInt]
 have e2:(BitVec.ofInt 64 c).toNat=c.toNat:=by
  have:(BitVec.ofInt 64 c).toNat=(c %18446744073709551616).toNat:=by simp [BitVec.toNat_ofInt]
  rw [this];omega
 have e3:(BitVec.ofInt 64 a ||| BitVec.ofInt 64 c).toNat=(a %18446744073709551616).toNat+c.toNat:=by
  rw [BitVec.toNat_or,e1,e2,nat_join 7 _ _ (by omega) (by omega)]
 have e4:=cV (fun n:Nat=>((n:Int)+9223372036854775808) %18446744073709551616 - 9223372036854775808) e3;refine Eq.trans e4 ?_;omega
theorem Iz:∀x:Fin 256,x.val&&&64=if x.val %128 < 64 then 0 else 64:=by decide+kernel
theorem yd (n:Nat) (h:n < 256):bits .and .u8 (n:Int) 64=if n %128 < 64 then 0 else 64:=by
 have h0:=u8_and_nat n 64 h (by omega);rw [Iz ⟨n,h⟩]at h0;refine h0.trans ?_;by_cases h:n %128 < 64
 ·rw [aJ h,aJ h];rfl
 ·rw [aC h,aC h];rfl
theorem Ir (x:Int) (y:Nat) (hy:y < 256):
  bits .or .i64 (wrap64 (x*128)) (wrap64 (bits .andNot .u8 (y:Int) 128))=Cb ((y %128:Nat)+128*x):=by
 rw [IK y hy];have h2:wrap64 ((y %128:Nat):Int)=((y %128:Nat):Int):=by unfold wrap64;omega
 rw [h2,IV _ _ (by unfold wrap64;omega) (by omega) (by omega)];unfold wrap64 Cb;omega
theorem Fy (c x:Int):Cb (c+128*Cb x)=Cb (c+128*x):=by
 unfold Cb;omega
theorem yg {l:List UInt8} {j:Nat} {y:UInt8} (hy:l[j]?=some y):pZ (l.take (j+1))=if y.toNat %128 < 64 then 0 else -1:=by
 obtain⟨KC,he⟩:=aN.1 hy;have:(l.take (j+1)).getLast?=some y:=by
  rw [dJ,aS,cH (by omega),dc,cT,aJ (by omega),hy]
 rw [pZ,this]
theorem Cm:∀(f:Nat) (n:Int),-((128:Int)^(f+1)) <=2*n ->2*n < 128^(f+1) ->iB (f+1) n≠[]/\Br (pZ (iB (f+1) n)) (iB (f+1) n)=n:=by
 intro f
 induction f with
 | zero=>
  intro n h h';rw [iB,aJ (by omega)];refine⟨by simp,?_⟩;simp only [pZ,List.getLast?_singleton,Br];rw [fM (by omega)];split <;>omega
 | succ f ih=>
  intro n h h';rw [iB];split
  ·rename_i hs
   refine⟨by simp,?_⟩;simp only [pZ,List.getLast?_singleton,Br];rw [fM (by omega)];split <;>omega
  ·rename_i hs
   rw [bU,bU]at h h';obtain⟨h1,h2⟩:=ih (n/128) (by rw [bU];omega) (by rw [bU];omega);refine⟨by simp,?_⟩;have h3:pZ (b8 ((n %128).toNat+128)::iB (f+1) (n/128))=pZ (iB (f+1) (n/128)):=by
    cases hc:iB (f+1) (n/128)with
    | nil=>exact absurd hc h1
    | cons x l=>simp [pZ,cZ]
   rw [h3,Br,h2,fM (by omega)];omega
theorem rU {n:Int} (h: -9223372036854775808 <=n) (h':n < 9223372036854775808):yI (ie n)=n:=(Cm 9 n (by omega) (by omega)).2
theorem og {x:Int} {n:Nat}:x/2^n=0↔0 <=x/\x < 2^n:=by
 have hp:(0:Int) < 2^n:=Int.pow_pos (by omega)
 constructor
 ·intro h
  have h1:=Int.emod_nonneg x (Int.ne_of_gt hp);have h2:=Int.emod_lt_of_pos x hp;have h3:=Int.mul_ediv_add_emod x (2^n);rw [h]at h3;omega
 ·rintro⟨h1,h2⟩
  exact Int.ediv_eq_zero_of_lt h1 h2
theorem sy {x:Int} {n:Nat}:x/2^n= -1↔-(2^n) <=x/\x < 0:=by
 have hp:(0:Int) < 2^n:=Int.pow_pos (by omega);have e:x/2^n=(x+2^n)/2^n - 1:=by
  have:=Int.add_mul_ediv_right x 1 (Int.ne_of_gt hp);rw [Int.one_mul]at this;omega
 rw [e];have:=@og (x+2^n) n;omega
theorem BQ {bits:Int} {l:List UInt8} {k:Nat} {x:Int} (he:(fc bits l).2=0) (hk:k=(fc bits l).1) (hx:x=Cb (Br (pZ (l.take k)) (l.take k)))
  (hs:(l.take k==ie x)=true) (hr:x/2^(bits.toNat - 1)=0\/x/2^(bits.toNat - 1)= -1):jq bits l=(x,k,0):=by
 obtain⟨h1,h2,_⟩:=jf he;have hs':l.take k=ie x:=by simpa using hs
 have hx1: -9223372036854775808 <=x/\x < 9223372036854775808:=by rw [hx];unfold Cb;omega
 have hv:yI (l.take k)=x:=by rw [hs'];exact rU hx1.1 hx1.2
 rw [og,sy]at hr;have hp:(0:Int) < 2^(bits.toNat - 1):=Int.pow_pos (by omega);rw [jq,aC (by rw [he];simp), <- hk,hv,aJ ⟨hs'.symm,by omega,by omega⟩]
theorem yn {bits:Int} {l:List UInt8} {k:Nat} {x:Int} (he:(fc bits l).2=0) (hk:k=(fc bits l).1) (hx:x=Cb (Br (pZ (l.take k)) (l.take k)))
  (hs:(l.take k==ie x)=false\/¬ (x/2^(bits.toNat - 1)=0\/x/2^(bits.toNat - 1)= -1)):jq bits l=(0,0,1):=by
 obtain⟨h1,h2,_⟩:=jf he;rw [jq,aC (by rw [he];simp), <- hk,aC];rintro⟨h3,h4,h5⟩;have h6:(2:Int)^(bits.toNat - 1) <=9223372036854775808:=by
  have h7:(2:Nat)^(bits.toNat - 1) <=2^63:=cP (by omega) (by omega);have h8:((2^(bits.toNat - 1):Nat):Int) <=((2^63:Nat):Int):=Int.ofNat_le.2 h7;rw [Int.natCast_pow]at h8;exact h8
 have hv:x=yI (l.take k):=by
  rw [hx, <- yI];unfold Cb;omega
 rcases hs with h | h
 ·rw [hv,h3,beq_self_eq_true]at h
  cases h
 ·apply h
  rw [og,sy,hv];omega
theorem Fz {s:Int} {l:List UInt8} {k j:Nat} {y:UInt8} (hy:l[j]?=some y) (hj:j < k):Br s ((l.take k).drop j)=(y.toNat %128:Nat)+128*Br s ((l.take k).drop (j+1)):=by
 have h:(l.take k)[j]?=some y:=by rw [cT,aJ hj];exact hy
 obtain⟨KC,he⟩:=aN.1 h;rw [cq KC,Br,he]
def SJ (l:List UInt8) (k:Nat) (w w':World) (x:Int) (i:Nat):Prop:=w'=w/\i <=k/\x=Cb (Br (pZ (l.take k)) ((l.take k).drop i))
theorem BZ (b:Value) (l:List UInt8) (bits:Int) (w:World) (hb:eJ w b l) (KJ: -9223372036854775808 <=bits) (Kx:bits <=9223372036854775807):
  Calls prog 282 #[b, .int .i64 bits] w (JX bits l w):=by
 by_cases he:(fc bits l).2=0
 ·obtain⟨k,hk⟩:∃k,k=(fc bits l).1:=⟨_,rfl⟩
  have HK:=V hk;have Pz:=V hb;obtain⟨K9,Mr,LN,KB,K7⟩:=jf he;have Po:1 <=k:=by omega
  have Ls:k <=l.length:=by omega
  have O9:k <=10:=by omega
  clear LN KB K7;obtain⟨a,cap,rfl,hl,hm,hc⟩:=hb;unfold maxLen at hm;have HC:=V hc;have HE:=V he;clear hc hk he;go_enter func282,ntmps282;go_wp2;refine kg 0 (fun a' w'=>∃(x:Int) (i:Nat) (u8 QC P0 QD QE QF u16 QG QH QI u20 u21 u22 u23 u24 u25 u26 u27 u28 u29 u30 u31 u32 u33 u34 u35 u36 u37 u38 u39 u40 u41 u42 u43 u44 u45 u46 u47 u48 u49 u50 u51 u52 u53 u54 u55 u56 u57 u58 u59 u60 u61 u62:Value),a'={tmps:=#[.slice a l.length cap, .int .i64 bits,undef,undef, .int .i64 0, .int .i64 0, .int .i64 0, .int .i64 k,u8, .int .i64 x, .int .i64 i,QC,P0,QD,QE,QF,u16,QG,QH,QI,u20,u21,u22,u23,u24,u25,u26,u27,u28,u29,u30,u31,u32,u33,u34,u35,u36,u37,u38,u39,u40,u41,u42,u43,u44,u45,u46,u47,u48,u49,u50,u51,u52,u53,u54,u55,u56,u57,u58,u59,u60,u61,u62],defers:=[]}/\SJ l k w w' x i) (fun a' _=>(intOf (a'.tmps.getD 10 undef)).toNat) rfl ?_ ?_
  ·rintro a' w1 ⟨x,i,u8,QC,P0,QD,QE,QF,u16,QG,QH,QI,u20,u21,u22,u23,u24,u25,u26,u27,u28,u29,u30,u31,u32,u33,u34,u35,u36,u37,u38,u39,u40,u41,u42,u43,u44,u45,u46,u47,u48,u49,u50,u51,u52,u53,u54,u55,u56,u57,u58,u59,u60,u61,u62,rfl,hJ⟩
   obtain⟨rfl,hik,hx⟩:=hJ;have HX:=V hx;clear hx;by_cases hi:i=0
   ·subst hi
    rw [List.drop_zero]at HX;have Ng: -9223372036854775808 <=x/\x <=9223372036854775807:=by rw [HX.out];unfold Cb;omega
    have hbt:eJ w1 (.slice a k cap) (l.take k):=Pz.out.take k Ls;have HBT:=V hbt;clear hbt;by_cases hs:(l.take k==ie x)=true
    ·by_cases hr:x/2^(bits.toNat - 1)=0
     ·have r1:=eH hr
      have r2:(x/2^(bits.toNat - 1) !=0)=false:=jN hr;have HR:=V hr;clear hr;have HS:=V hs;clear hs;go_wp2_with fail;refine ef (fun _=>True) (up 0 4 ((4,false)::(5,false)::up 6 9 [])) (by kernel_rfl) (by kernel_rfl) trivial ?_;iterate 4 (first | (apply sk rfl rfl;simp only [pt]) | (apply dV rfl rfl rfl;·(intro w' _;go_wp2;exact⟨rfl,rfl,rfl⟩)))
      refine ed rfl rfl ?_;go_wp2_with (go_at_call 236;refine(mQ _ [] x Ng.1 Ng.2 w1.heap.size _ (dX.nil _ _) (by simp) (by simp)).mono ?_;rintro e w2 ⟨v2,rfl,KQ,KB,KG⟩);have Kx:=fN (KB.below (ag _) (by intro i hi;cases hi));refine⟨trivial,?_⟩;refine ed rfl rfl ?_;go_wp2_with (go_at_call 269;refine(lL _ _ (l.take k) (ie x) _ (HBT.out.below Kx) KQ.fp).mono ?_;rintro e w3 ⟨rfl,rfl⟩;rw [HS.out]);refine⟨trivial,?_⟩;iterate 9 (first | (apply sk rfl rfl;simp only [pt]) | (apply dV rfl rfl rfl;·(intro w' _;go_wp2;exact⟨rfl,rfl,rfl⟩)))
      refine eL ?_;refine aD ?_;go_wp2;rw [iJ]
      go_ret3
      refine⟨?_,Kx⟩;rw [BQ HE.out HK.out HX.out HS.out (.inl HR.out)];rfl
     by_cases hr':x/2^(bits.toNat - 1)= -1
     ·have r1:=eH hr'
      have r2:(x/2^(bits.toNat - 1) !=0)=true:=ff hr;have r3:(x/2^(bits.toNat - 1) != -1)=false:=jN hr';have HR:=V hr';clear hr hr';have HS:=V hs;clear hs;go_wp2_with fail;refine ef (fun _=>True) (up 0 4 ((4,false)::(5,false)::up 6 9 [])) (by kernel_rfl) (by kernel_rfl) trivial ?_;iterate 4 (first | (apply sk rfl rfl;simp only [pt]) | (apply dV rfl rfl rfl;·(intro w' _;go_wp2;exact⟨rfl,rfl,rfl⟩)))
      refine ed rfl rfl ?_;go_wp2_with (go_at_call 236;refine(mQ _ [] x Ng.1 Ng.2 w1.heap.size _ (dX.nil _ _) (by simp) (by simp)).mono ?_;rintro e w2 ⟨v2,rfl,KQ,KB,KG⟩);have Kx:=fN (KB.below (ag _) (by intro i hi;cases hi));refine⟨trivial,?_⟩;refine ed rfl rfl ?_;go_wp2_with (go_at_call 269;refine(lL _ _ (l.take k) (ie x) _ (HBT.out.below Kx) KQ.fp).mono ?_;rintro e w3 ⟨rfl,rfl⟩;rw [HS.out]);refine⟨trivial,?_⟩;iterate 9 (first | (apply sk rfl rfl;simp only [pt]) | (apply dV rfl rfl rfl;·(intro w' _;go_wp2;exact⟨rfl,rfl,rfl⟩)))
      refine eL ?_;refine aD ?_;go_wp2;rw [iJ]
      go_ret3
      refine⟨?_,Kx⟩;rw [BQ HE.out HK.out HX.out HS.out (.inr HR.out)];rfl
     ·have r2:(x/2^(bits.toNat - 1) !=0)=true:=ff hr
      have r3:(x/2^(bits.toNat - 1) != -1)=true:=ff hr';have HR:=V hr;have HR':=V hr';clear hr hr';have HS:=V hs;clear hs;go_wp2_with fail;refine ef (fun _=>True) (up 0 4 ((4,false)::(5,false)::up 6 9 [])) (by kernel_rfl) (by kernel_rfl) trivial ?_;iterate 4 (first | (apply sk rfl rfl;simp only [pt]) | (apply dV rfl rfl rfl;·(intro w' _;go_wp2;exact⟨rfl,rfl,rfl⟩)))
      refine ed rfl rfl ?_;go_wp2_with (go_at_call 236;refine(mQ _ [] x Ng.1 Ng.2 w1.heap.size _ (dX.nil _ _) (by simp) (by simp)).mono ?_;rintro e w2 ⟨v2,rfl,KQ,KB,KG⟩);have Kx:=fN (KB.below (ag _) (by intro i hi;cases hi));refine⟨trivial,?_⟩;refine ed rfl rfl ?_;go_wp2_with (go_at_call 269;refine(lL _ _ (l.take k) (ie x) _ (HBT.out.below Kx) KQ.fp).mono ?_;rintro e w3 ⟨rfl,rfl⟩;rw [HS.out]);refine⟨trivial,?_⟩;iterate 9 (first | (apply sk rfl rfl;simp only [pt]) | (apply dV rfl rfl rfl;·(intro w' _;go_wp2;exact⟨rfl,rfl,rfl⟩)))
      refine eL ?_;refine aD ?_;go_wp2;rw [iJ]
      go_ret3
      refine⟨?_,Kx⟩;rw [yn HE.out HK.out HX.out (.inr (fun h=>h.elim HR.out HR'.out))];rfl
    ·rw [Bool.not_eq_true]at hs
     have HS:=V hs;clear hs;go_wp2_with fail;refine ef (fun _=>True) (up 0 4 ((4,false)::(5,false)::up 6 9 [])) (by kernel_rfl) (by kernel_rfl) trivial ?_;iterate 4 (first | (apply sk rfl rfl;simp only [pt]) | (apply dV rfl rfl rfl;·(intro w' _;go_wp2;exact⟨rfl,rfl,rfl⟩)))
     refine ed rfl rfl ?_;go_wp2_with (go_at_call 236;refine(mQ _ [] x Ng.1 Ng.2 w1.heap.size _ (dX.nil _ _) (by simp) (by simp)).mono ?_;rintro e w2 ⟨v2,rfl,KQ,KB,KG⟩);have Kx:=fN (KB.below (ag _) (by intro i hi;cases hi));refine⟨trivial,?_⟩;refine ed rfl rfl ?_;go_wp2_with (go_at_call 269;refine(lL _ _ (l.take k) (ie x) _ (HBT.out.below Kx) KQ.fp).mono ?_;rintro e w3 ⟨rfl,rfl⟩;rw [HS.out]);refine⟨trivial,?_⟩;iterate 9 (first | (apply sk rfl rfl;simp only [pt]) | (apply dV rfl rfl rfl;·(intro w' _;go_wp2;exact⟨rfl,rfl,rfl⟩)))
     refine eL ?_;refine aD ?_;go_wp2;rw [iJ]
     go_ret3
     refine⟨?_,Kx⟩;rw [yn HE.out HK.out HX.out (.inl HS.out)];rfl
   ·obtain⟨j,rfl⟩:∃j,i=j+1:=⟨i - 1,by omega⟩
    obtain⟨y,hy⟩:∃y,l[j]?=some y:=⟨_,aq (show j < l.length by omega)⟩;obtain⟨b,off,rfl,hc⟩:=HC.out j y hy;have hy8:=y.toNat_lt;have HY:=V hy;clear hy;have KC:j < l.length:=by omega
    go_wp2_with fail
    go_step3
    simp only [Exit.then];rw [Ir x y.toNat hy8];refine ly ⟨_,j,_,_,_,_,_,_,_,_,_,_,_,_,_,_,_,_,_,_,_,_,_,_,_,_,_,_,_,_,_,_,_,_,_,_,_,_,_,_,_,_,_,_,_,_,_,_,_,_,_,_,_,_,_,rfl,rfl,by omega,?_⟩ ?_
    ·rw [Fz HY.out (by omega),HX.out,Fy]
    ·simp [intOf]
  ·intro H
   have Hh:=V H;clear H;obtain⟨y,hy⟩:∃y,l[k - 1]?=some y:=⟨_,aq (show k - 1 < l.length by omega)⟩;obtain⟨b,off,rfl,hc⟩:=HC.out (k - 1) y hy;obtain⟨j,rfl⟩:∃j,k=j+1:=⟨k - 1,by omega⟩;rw [dc]at hc;have hy8:=y.toNat_lt;have HY:=V hy;clear hy;have Ny:=yd y.toNat hy8;have HB6:=V Ny;clear Ny;rcases bC (y.toNat %128) 64 with hy6 | hy6
   ·have r1:(Go.bits .and .u8 (y.toNat:Int) 64 !=0)=false:=by rw [HB6.out,aJ hy6];rfl
    go_wp2_with (go_at_call 268;refine(mG _ l _ _ Pz.out (by omega) (by omega)).mono ?_;rintro e w' ⟨rfl,rfl⟩;rw [HE.out, <- HK.out])
    go_step3
    go_step
    go_step
    refine Hh.out _ _ ⟨_,j+1,_,_,_,_,_,_,_,_,_,_,_,_,_,_,_,_,_,_,_,_,_,_,_,_,_,_,_,_,_,_,_,_,_,_,_,_,_,_,_,_,_,_,_,_,_,_,_,_,_,_,_,_,_,rfl,rfl,ag _,?_⟩;rw [List.drop_eq_nil_of_le (by rw [aS];omega),Br,yg (j:=j) HY.out,aJ hy6];rfl
   ·have r1:(Go.bits .and .u8 (y.toNat:Int) 64 !=0)=true:=by rw [HB6.out,aC (by omega)];rfl
    go_wp2_with (go_at_call 268;refine(mG _ l _ _ Pz.out (by omega) (by omega)).mono ?_;rintro e w' ⟨rfl,rfl⟩;rw [HE.out, <- HK.out])
    go_step3
    go_step
    go_step
    refine Hh.out _ _ ⟨_,j+1,_,_,_,_,_,_,_,_,_,_,_,_,_,_,_,_,_,_,_,_,_,_,_,_,_,_,_,_,_,_,_,_,_,_,_,_,_,_,_,_,_,_,_,_,_,_,_,_,_,_,_,_,_,rfl,rfl,ag _,?_⟩;rw [List.drop_eq_nil_of_le (by rw [aS];omega),Br,yg (j:=j) HY.out,aC (by omega)];rfl
 ·have HE:=V he
  have Pz:=V hb;have HB:=V (dS he);clear he hb;go_enter func282,ntmps282;go_wp2
  go_step3
  go_wp2_with (go_at_call 268;refine(mG _ l _ _ Pz.out (by omega) (by omega)).mono ?_;rintro e w' ⟨rfl,rfl⟩;have hb:=HB.out);rw [Exit.noGoto_ret]
  go_ret3
  refine⟨?_,an _ _⟩;rw [jq,aJ HE.out];rfl
structure fa where
 kind:Int
 n:Int
deriving DecidableEq
def gb (v:fa):List Value:=[.int .i64 v.kind, .int .i64 v.n]
theorem fK (v:fa):(gb v).length=2:=rfl
theorem lT (v:fa):∀u∈gb v,u.oneCell'=true:=by
 intro u hu;simp only [gb,bB,bJ,cM]at hu;rcases hu with rfl | rfl <;>rfl
def fa.ok (v:fa):Prop:=(-9223372036854775808 <=v.kind/\v.kind <=9223372036854775807)/\(-9223372036854775808 <=v.n/\v.n <=9223372036854775807)
def fa.may (v:fa):Prop:=v.kind=2\/v.kind=1/\ -2147483648 <=v.n/\v.n <=2147483647
instance (v:fa):Decidable v.may:=by unfold fa.may;infer_instance
def ew (b:Bool) (w:World) (e:Ending) (w':World):Prop:=e= .returned (.bool b)/\Below w.heap.size w w'
theorem ni (v:fa) (w:World):Calls prog 135 #[.agg #[.int .i64 v.kind, .int .i64 v.n]] w (ew (decide v.may) w):=by
 by_cases q0:v.kind=2
 ·have f0:=eH q0
  have Q0:=V q0;clear q0;rw [show decide v.may=true from aA (.inl Q0.out)];go_enter func135,ntmps135;go_wp2_with fail;go_ret;exact⟨rfl,(an _ _).alloc (ag _) _⟩
 have f0:=dS q0;by_cases q1:v.kind=1
 ·have f1:=eH q1
  by_cases q2: -2147483648 <=v.n
  ·have f2:decide (-2147483648 <=v.n)=true:=aA q2
   by_cases q3:v.n <=2147483647
   ·have f3:decide (v.n <=2147483647)=true:=aA (by omega)
    have Q1:=V q1;clear q1 q0;rw [show decide v.may=true from aA (.inr ⟨Q1.out,q2,q3⟩)];go_enter func135,ntmps135;go_wp2_with fail;go_ret;exact⟨rfl,(an _ _).alloc (ag _) _⟩
   ·have f3:decide (v.n <=2147483647)=false:=az (by omega)
    have Q0:=V q0;clear q0 q1;rw [show decide v.may=false from az (fun h=>h.elim Q0.out (fun h=>q3 h.2.2))];go_enter func135,ntmps135;go_wp2_with fail;go_ret;exact⟨rfl,(an _ _).alloc (ag _) _⟩
  ·have f2:decide (-2147483648 <=v.n)=false:=az q2
   have Q0:=V q0;clear q0 q1;rw [show decide v.may=false from az (fun h=>h.elim Q0.out (fun h=>q2 h.2.1))];go_enter func135,ntmps135;go_wp2_with fail;go_ret;exact⟨rfl,(an _ _).alloc (ag _) _⟩
 ·have f1:=dS q1
  have Q0:=V q0;have Q1:=V q1;clear q0 q1;rw [show decide v.may=false from az (fun h=>h.elim Q0.out (fun h=>Q1.out h.1))];go_enter func135,ntmps135;go_wp2_with fail;go_ret;exact⟨rfl,(an _ _).alloc (ag _) _⟩
def sH {α:Type} (p:α ->Bool) (l:List α):Int:=match l.findIdx? p with | some i=>i | none=> -1
theorem ic {α:Type} {p:α ->Bool} {l:List α} {k:Nat} {e:α} (he:l[k]?=some e) (hn:p e=true) (hb:∀i,i < k ->∀d,l[i]?=some d ->p d=false):sH p l=k:=by
 obtain⟨hk,rfl⟩:=aN.1 he;have:l.findIdx? p=some k:=by
  rw [List.findIdx?_eq_some_iff_getElem];refine⟨hk,hn,fun j hj=>?_⟩;rw [hb j hj _ (aq (by omega))];simp
 rw [sH,this]
theorem gO {α:Type} {p:α ->Bool} {l:List α} (hb:∀i,i < l.length ->∀d,l[i]?=some d ->p d=false):sH p l= -1:=by
 have:l.findIdx? p=none:=by
  rw [List.findIdx?_eq_none_iff];intro x hx;obtain⟨i,hi⟩:=List.mem_iff_getElem?.1 hx;exact hb i (aN.1 hi).1 x hi
 rw [sH,this]
theorem iu {α:Type} (p:α ->Bool) (l:List α):decide (0 <=sH p l)=l.any p:=by
 unfold sH;cases h:l.findIdx? p with
 | none=>
  rw [List.findIdx?_eq_none_iff]at h;have:l.any p=false:=by rw [dB];intro x hx;rw [h x hx];simp
  rw [this];rfl
 | some i=>
  rw [List.findIdx?_eq_some_iff_getElem]at h;obtain⟨hi,h1,_⟩:=h;have:l.any p=true:=List.any_eq_true.2 ⟨_,List.getElem_mem hi,h1⟩;rw [this];exact aA (by show(0:Int) <=(i:Int);omega)
def jU {α:Type} (p:α ->Bool) (l:List α) (w:World) (e:Ending) (w':World):Prop:=e= .returned (.int .i64 (sH p l))/\Below w.heap.size w w'
def pK {α:Type} (p:α ->Bool) (l:List α) (w w':World) (k:Nat):Prop:=k <=l.length/\(∀i,i < k ->∀d,l[i]?=some d ->p d=false)/\Below w.heap.size w w'
def fo (xs ys:List UInt8) (B:Nat) (b:Value) (w:World) (e:Ending) (w':World):Prop:=
 ∃v',e= .returned v'/\dX w' B v' (xs++ys)/\dU (eA b) w w'/\eE w b v'
theorem lG (b:Value) (xs:List UInt8) (u:Nat) (h1:u <=9223372036854775807) (B:Nat) (w:World) (Ku:dX w B b xs) (hn:xs.length <=1000000000) (hB:B <=w.heap.size):
  Calls prog 119 #[b, .int .i64 u] w (fo xs (eP u) B b w):=by
 go_enter func119,ntmps119;go_wp2_with fail;refine(je b xs u (by omega) B w Ku hn hB).mono ?_;rintro x w2 ⟨v,rfl,h2,h3,h4⟩;go_wp2_with fail;go_ret;exact⟨v,rfl,h2,h3,h4⟩
def qZ (v:fa):List UInt8:=eP v.kind.toNat++ie v.n
def jI (l:List fa):List UInt8:=eP l.length++(l.map qZ).flatten
theorem tE {n:Int} (h1: -9223372036854775808 <=n) (h2:n <=9223372036854775807):1 <=(ie n).length/\(ie n).length <=10:=by
 obtain⟨p,z,e1,_,_,e4⟩:=oS 9 n (by omega) (by omega);change ie n=p++[z]at e1;rw [e1];simp;omega
theorem FD {v:fa} (h:v.ok):(qZ v).length <=20:=by
 have h1:=(eF v.kind.toNat).2;have h2:=(tE h.2.1 h.2.2).2;rw [qZ,ah];omega
theorem nG:∀l:List fa,(∀v∈l,v.ok) ->((l.map qZ).flatten).length <=20*l.length
 | [],_=>by simp
 | v::l,h=>by
  have h1:=FD (h v (by simp));have h2:=nG l (fun x hx=>h x (by simp [hx]));simp only [bA,bS,ah,aI];omega
def Jw (xs:List UInt8) (l:List fa) (B:Nat) (b:Value) (w w':World) (v:Value) (k:Nat):Prop:=
 k <=l.length/\dX w' B v (xs++(eP l.length++((l.take k).map qZ).flatten))/\dU (eA b) w w'/\eE w b v
theorem sa (b:Value) (xs:List UInt8) (vl:Value) (l:List fa) (B:Nat) (w:World) (Ku:dX w B b xs) (hn:xs.length <=100000) (hB:B <=w.heap.size)
  (hl:eg 2 gb w vl l) (hm:∀v∈l,v.may) (KF:∀v∈l,v.ok) (Ok:l.length <=1000) (hvb:l≠[] ->∀i,eA b i ->∀a n c,vl= .slice (some a) n c ->a.block≠i):
  Calls prog 120 #[b,vl] w (fo xs (jI l) B b w):=by
 have HI:=V hl;have LH:=V KF;have HM:=V hm;have HVB:=V hvb;obtain⟨a,cap,rfl,h1,h2,_⟩:=hl;unfold maxLen at h2;clear KF hm hvb;go_enter func120,ntmps120;go_wp2_with fail;refine(lG b xs l.length (by omega) B w Ku (by omega) hB).mono ?_;rintro x w1 ⟨v,rfl,ho,hk,hs⟩;go_wp2_with fail;refine eB (fun a' w'=>∃(v:Value) (k:Nat),a'=fr (v:: .slice a l.length cap::gs a' 2 9 (.slice a l.length cap:: .int .i64 l.length:: .int .i64 k::gs a' 14 12 []))/\Jw xs l B b w w' v k) (fun a' _=>(l.length - (intOf (a'.tmps.getD 13 undef)).toNat)) ?_ ?_
 ·exact⟨v,0,rfl,by omega,by simpa using ho,hk,hs⟩
 ·clear ho hk hs
  rintro R a' w1 ⟨v,k,Kw,hJ⟩ HR;dsimp only [fr,gs]at Kw;generalize slot a'=f at Kw;subst Kw;obtain⟨Ls,ho,hk,hs⟩:=hJ;have Lr:=hk.size;by_cases KC:k < l.length
  ·obtain⟨e,he⟩:∃e,l[k]?=some e:=⟨_,aq KC⟩
   obtain⟨a',KR,hv,_,_,Kt⟩:=HI.out;injection hv with e1 e2 e3;subst e1 e3;obtain⟨bb,off,rfl,Mk,hc⟩:=Kt k e he;have Ma:¬ eA b bb:=fun h=>HVB.out (by rintro rfl;simp at KC) bb h _ _ _ rfl rfl;have Ln:∀j u,(gb e)[j]?=some u ->w1.cell? ⟨bb,off+k*2+j,none⟩=some u:=fun j u hu=>by
    rw [bm (w:=w) (a:=⟨bb,off+k*2+j,none⟩) (hk.block bb Mk Ma)];exact hc j u hu
   have c0:=Ln 0 _ rfl;have c1:=Ln 1 _ rfl;rw [aL]at c0;have hme:=HM.out e (aO he);obtain⟨⟨m1,m2⟩,m3,m4⟩:=LH.out e (aO he);obtain⟨n0,L8⟩:∃n:Nat,e.kind=n:=⟨e.kind.toNat,by rcases hme with h | h <;>omega⟩;have hn2:n0 <=2:=by rcases hme with h | h <;>omega
   rw [L8]at m1 m2 c0;have hlen:(xs++(eP l.length++((l.take k).map qZ).flatten)).length <=200000:=by
    have g1:=(eF l.length).2;have g2:=nG (l.take k) (fun x hx=>LH.out x (cD hx));have g3:(l.take k).length <=1000:=by rw [aS];omega
    simp only [ah];omega
   have HV:=V (show qZ e=eP n0++ie e.n by rw [qZ,L8];rfl);have HE:=V he;generalize hL:xs++(eP l.length++((l.take k).map qZ).flatten)=L at ho hlen;have HL:=V hL;clear hL Kt hc Ln e2 he hme L8;have Mv:∀i,eA v i ->i≠w1.heap.size:=fun i hi=>by have:=(et ho hi).2;omega
   have HX0:=V Mv;clear Mv;go_wp2_with fail;refine ef (fun w'=>w'.cell? ⟨w1.heap.size,0,none⟩=some (.int .i64 n0)/\w'.cell? ⟨w1.heap.size,1,none⟩=some (.int .i64 e.n)) (up 0 3 ((4,true)::(5,true)::(3,false)::(6,false)::(7,true)::[])) (by kernel_rfl) (by kernel_rfl) ⟨by simp,by simp⟩ ?_;iterate 5 (first | (apply sk rfl rfl;simp only [pt]) | (apply dV rfl rfl rfl;·(rintro w' ⟨t0,t1⟩;go_wp2;exact⟨rfl,rfl,rfl⟩)))
   refine ed rfl rfl ?_;go_wp2_with fail;have LN:dU (eA v) w1 (w1.alloc (.cells #[.int .i64 n0, .int .i64 e.n] 42)).drew:=((dU.refl _ _).alloc _).drew;have LY:eG (w1.alloc (.cells #[.int .i64 n0, .int .i64 e.n] 42)).drew w1.heap.size #[.int .i64 n0, .int .i64 e.n] 42:=(eG.new w1 _ _).drew;refine(lG v L n0 (by omega) B _ (ho.keeps (((dU.refl (fun _=>False) w1).alloc _).drew) (fun _ _ h=>h)) (by omega) (by simp;have:=(dU.refl (eA v) w1);omega)).mono ?_;rintro x w2 ⟨v2,rfl,KQ,KB,KG⟩;have Nh:=LY.keeps KB (fun h=>HX0.out _ h rfl);have hn1:(eP n0).length <=10:=(eF _).2;go_wp2_with fail;refine⟨⟨Nh.cell 0,Nh.cell 1⟩,?_⟩;refine ed rfl rfl ?_;have N1:=KB.size;simp only [World.size_drew,aE]at N1;go_wp2_with fail;refine(mQ v2 _ e.n m3 m4 B w2 KQ (by simp only [ah];omega) (by omega)).mono ?_;rintro x w3 ⟨v3,rfl,LD,K7,Md⟩;have PA:=Nh.keeps K7 (fun h=>by
    rcases KG _ h with g | g
    ·exact HX0.out _ g rfl
    ·simp at g
     omega)
   have Qa:dU (eA v) w1 w2:=LN.trans KB (fun i h=> .inl h);have hs12:eE w1 v v2:=fun i hi=>(KG i hi).imp id (fun g=>by simp at g;omega);have Qb:dU (eA v) w1 w3:=Qa.trans K7 (fun i h=>(hs12 i h));have hs13:eE w1 v v3:=hs12.trans Md Qa.size;have hkf:dU (eA b) w w3:=hk.trans Qb (fun i h=>(hs i h));have hsf:eE w b v3:=hs.trans hs13 hk.size;clear KB KG K7 Md Qa hs12 Qb hs13 LN LY Nh;go_wp2_with fail;refine⟨⟨PA.cell 0,PA.cell 1⟩,?_⟩;iterate 1 (first | (apply sk rfl rfl;simp only [pt]) | (apply dV rfl rfl rfl;·(rintro w' ⟨t0,t1⟩;go_wp2;exact⟨rfl,rfl,rfl⟩)))
   refine eL ?_;refine aD ?_;go_wp2_with fail;refine HR.out _ _ ⟨v3,k+1,rfl,by omega,?_,hkf,hsf⟩ ?_
   ·have e1:xs++(eP l.length++((l.take (k+1)).map qZ).flatten)=L++eP n0++ie e.n:=by
     rw [<- HL.out,aQ,HE.out];simp [HV.out]
    rw [e1];exact LD
   ·simp [intOf]
    omega
  ·obtain rfl:k=l.length:=by omega
   go_wp2_with fail;go_ret;refine⟨v,rfl,?_,hk,hs⟩;rw [aU]at ho;exact ho
theorem AX (u:Nat) (rest:List UInt8) (hu:u < 4611686018427387904):ib 62 (eP u++rest)=(u,(eP u).length,0):=by
 obtain⟨p,z,h1,h2,h3,h4⟩:=rf 9 u (by omega);change eP u=p++[z]at h1;have hp:p.length <=8:=by
  rcases rQ 10 u (by omega)with h | h
  ·change(eP u).length <=1 at h
   rw [h1]at h;simp at h;simp [h]
  ·change 128^((eP u).length - 1) <=u at h
   rw [h1,ah,aB,dc]at h;rcases bC 8 p.length with g | g
   ·have:(128:Nat)^9 <=128^p.length:=cP (by omega) g
    omega
   ·exact g
 have hl:fc 62 (eP u++rest)=((eP u).length,0):=by
  rw [h1,aP,dD];unfold fc;rw [aC (by omega),oC p z rest h2 h3,aC (by omega),aC (by simp)];simp
 unfold ib;rw [hl,aC (by simp)];have ht:(eP u++rest).take (eP u).length=eP u:=cO;simp only [ht];rw [ru (by omega),aJ ⟨rfl,by simpa using hu⟩]
theorem rJ {l:List UInt8} (h:(ib 62 l).2.2=0):∃u rest,u < 4611686018427387904/\l=eP u++rest/\ib 62 l=(u,(eP u).length,0):=by
 unfold ib at h⊢;by_cases h1:(fc 62 l).2≠0
 ·rw [aJ h1]at h
  exact absurd h h1
 ·rw [aC h1]at h⊢
  by_cases h2:eP (nZ (l.take (fc 62 l).1))=l.take (fc 62 l).1/\nZ (l.take (fc 62 l).1) < 2^(62:Int).toNat
  ·rw [aJ h2]
   obtain⟨_,_,k1,k2,_⟩:=jf (dC.1 h1);refine⟨_,l.drop (fc 62 l).1,by simpa using h2.2,by rw [h2.1,cB],?_⟩;rw [h2.1,aS,cH (by omega)]
  ·rw [aC h2]at h
   cases h
theorem tS (n:Int) (rest:List UInt8) (h0: -9223372036854775808 <=n) (h1:n <=9223372036854775807):jq 64 (ie n++rest)=(n,(ie n).length,0):=by
 obtain⟨p,z,e1,e2,e3,e4⟩:=oS 9 n (by omega) (by omega);change ie n=p++[z]at e1;have hl:fc 64 (ie n++rest)=((ie n).length,0):=by
  rw [e1,aP,dD];unfold fc;rw [aC (by omega),oC p z rest e2 e3,aC (by omega),aC (by simp)];simp
 unfold jq;rw [hl,aC (by simp)];have ht:(ie n++rest).take (ie n).length=ie n:=cO;simp only [ht];have h2:n < 9223372036854775808:=by omega
 rw [rU h0 h2,aJ ⟨rfl,h0,h2⟩]
theorem wL {l:List UInt8} (h:(jq 64 l).2.2=0):∃(n:Int) (rest:List UInt8),(-9223372036854775808 <=n/\n <=9223372036854775807)/\l=ie n++rest/\jq 64 l=(n,(ie n).length,0):=by
 unfold jq at h⊢;by_cases h1:(fc 64 l).2≠0
 ·rw [aJ h1]at h
  exact absurd h h1
 ·rw [aC h1]at h⊢
  split at h
  ·rename_i h2
   rw [aJ h2];obtain⟨_,_,k1,k2,_⟩:=jf (dC.1 h1);refine⟨_,l.drop (fc 64 l).1,?_,by rw [h2.1,cB],?_⟩
   ·have:=h2.2
    simp at this;omega
   ·rw [h2.1,aS,cH (by omega)]
  ·cases h
def fH:Option (List UInt8) ->Nat × Option (List UInt8)
 | none=>(0,none)
 | some l=>if(ib 62 l).2.2=0 then((ib 62 l).1,some (l.drop (ib 62 l).2.1))else(0,none)
def nz:Option (List UInt8) ->Int × Option (List UInt8)
 | none=>(0,none)
 | some l=>if(jq 64 l).2.2=0 then((jq 64 l).1,some (l.drop (jq 64 l).2.1))else(0,none)
theorem wS (l:List UInt8):fH (some l)=if(ib 62 l).2.2=0 then((ib 62 l).1,some (l.drop (ib 62 l).2.1))else(0,none):=rfl
theorem wu (l:List UInt8):nz (some l)=if(jq 64 l).2.2=0 then((jq 64 l).1,some (l.drop (jq 64 l).2.1))else(0,none):=rfl
theorem jY (u:Nat) (r:List UInt8) (hu:u < 4611686018427387904):fH (some (eP u++r))=(u,some r):=by
 simp only [fH,AX u r hu,cX,c9]
theorem Du (n:Int) (r:List UInt8) (h0: -9223372036854775808 <=n) (h1:n <=9223372036854775807):nz (some (ie n++r))=(n,some r):=by
 simp only [nz,tS n r h0 h1,cX,c9]
def oG:Option (List UInt8) ->Nat
 | none=>0
 | some l=>l.length+1
theorem sL (l:List UInt8):oG (fH (some l)).2+1 <=oG (some l):=by
 rw [wS];split
 ·rename_i h
  obtain⟨u,r,_,hl,hr⟩:=rJ h;have:=(eF u).1;have h2:=cV List.length hl;rw [ah]at h2;simp only [hr,oG,bq];omega
 ·simp [oG]
theorem mF (st:Option (List UInt8)):oG (fH st).2 <=oG st:=by
 cases st with
 | none=>simp [fH]
 | some l=>have:=sL l;omega
theorem G9 (st:Option (List UInt8)):oG (nz st).2 <=oG st:=by
 cases st with
 | none=>simp [nz]
 | some l=>
  rw [wu];split
  ·simp only [oG,bq]
   omega
  ·simp [oG]
theorem lE (st:Option (List UInt8)):(fH st).1 < 4611686018427387904:=by
 cases st with
 | none=>simp [fH]
 | some l=>
  rw [wS];split
  ·rename_i h
   obtain⟨u,r,hu,_,hr⟩:=rJ h;simp only [hr];exact hu
  ·simp
theorem GB (st:Option (List UInt8)): -9223372036854775808 <=(nz st).1/\(nz st).1 <=9223372036854775807:=by
 cases st with
 | none=>simp [nz]
 | some l=>
  rw [wu];split
  ·rename_i h
   obtain⟨n,r,hn,_,hr⟩:=wL h;simp only [hr];exact hn
  ·simp
def Rd (B0:Nat) (w:World) (R:Nat) (st:Option (List UInt8)):Prop:=
 ∃a n cap,eG w R #[.slice a n cap, .bool st.isNone] 203/\∃l,(l≠[] ->∀ad,a=some ad ->ad.block < B0)/\eJ w (.slice a n cap) l/\∀l',st=some l' ->l'=l
theorem oq {L p q:List UInt8} (hL:L=p++q) (a:Option Addr) (cap:Nat):∃a2 KA,
  (∀wx,(Instr.slice 97 (.slice a L.length cap) (some (.int .i64 p.length)) none none).run prog wx= .ok (.slice a2 q.length KA) wx)/\
  (∀wy,eJ wy (.slice a L.length cap) L ->eJ wy (.slice a2 q.length KA) q)/\∀ad,a2=some ad ->∃ad0,a=some ad0/\ad.block=ad0.block:=by
 have hle:p.length <=L.length:=by rw [hL];simp
 have hd:L.drop p.length=q:=by rw [hL];exact c9
 have hl:L.length - p.length=q.length:=by rw [hL];simp
 refine⟨if cap=p.length then a else a.map (·.add (p.length*1)),cap - p.length,fun wx=>?_,fun wy h=>?_,fun ad h=>?_⟩
 ·rw [o7 a L.length cap p.length hle wx,sliceFrom,hl]
 ·have:=h.drop p.length hle
  rw [hd,sliceFrom,hl]at this;exact this
 ·split at h
  ·exact⟨ad,h,rfl⟩
  ·cases a with
   | none=>cases h
   | some a0=>
    injection h with h;subst h;refine⟨a0,rfl,?_⟩;unfold Addr.add;split <;>rfl
theorem eJ.off {w w':World} {v:Value} {l:List UInt8} {R:Nat} {a:Option Addr} {n cap:Nat} {b:Bool} {t:TypeId} (h:eJ w v l) (hb:eG w R #[.slice a n cap, .bool b] t) (hk:dU (fun i=>i=R) w w'):eJ w' v l:=by
 obtain⟨a',KR,hv,h1,h2,h3⟩:=h;refine⟨a',KR,hv,h1,h2,fun i x hx=>?_⟩;obtain⟨g,off,ha,hc⟩:=h3 i x hx;refine⟨g,off,ha,?_⟩;have KC:=aT w _ hc;have Ma:g≠R:=by
  rintro rfl;have Mh:=hb.cell (off+i);rw [hc]at Mh
  match off+i,Mh with
  | 0,Mh=>simp at Mh
  | 1,Mh=>simp at Mh
  | n+2,Mh=>simp at Mh
 rw [bm (w:=w) (a:=⟨g,off+i,none⟩) (hk.block g KC Ma)];exact hc
theorem Rd.below {B0:Nat} {w w':World} {R:Nat} {st:Option (List UInt8)} (h:Rd B0 w R st) (hk:Below w.heap.size w w'):Rd B0 w' R st:=by
 obtain⟨a,n,cap,hb,l,hB,hl,hs⟩:=h;exact⟨a,n,cap,hb.below hk hb.lt,l,hB,hl.below hk,hs⟩
theorem Rd.keeps {B0:Nat} {w w':World} {R:Nat} {st:Option (List UInt8)} {S:Nat ->Prop} (h:Rd B0 w R st) (hk:dU S w w') (hR:¬ S R) (hS:∀i,S i ->B0 <=i):Rd B0 w' R st:=by
 obtain⟨a,n,cap,hb,l,hB,⟨a',KR,hv,h1,h2,h3⟩,hs⟩:=h;injection hv with e1 e2 e3;subst e1 e2 e3;refine⟨a,_,cap,hb.keeps hk hR,l,hB,⟨a,cap,rfl,h1,h2,fun i x hx=>?_⟩,hs⟩;obtain⟨b,off,ha,hc⟩:=h3 i x hx;refine⟨b,off,ha,?_⟩;have KC:=aT w _ hc;have KW:b < B0:=hB (by rintro rfl;simp at hx) _ ha;rw [bm (w:=w) (a:=⟨b,off+i,none⟩) (hk.block b KC (fun h=>by have:=hS b h;omega))];exact hc
theorem sE {w:World} {R:Nat} (i:Nat) (v:Value):dU (fun k=>k=R) w (w.setCell ⟨R,i,none⟩ v):=
 ⟨rfl,rfl,rfl,by simp,fun k _ hk=>cL w ⟨R,i,none⟩ v k hk⟩
def Iu (B0 R:Nat) (st:Option (List UInt8)) (w:World) (e:Ending) (w':World):Prop:=
 e= .returned (.int .i64 (fH st).1)/\Rd B0 w' R (fH st).2/\dU (fun k=>k=R) w w'
def IA (B0 R:Nat) (st:Option (List UInt8)) (w:World) (e:Ending) (w':World):Prop:=
 e= .returned (.int .i64 (nz st).1)/\Rd B0 w' R (nz st).2/\dU (fun k=>k=R) w w'
theorem kk (B0 R:Nat) (st:Option (List UInt8)) (w:World) (hr:Rd B0 w R st):Calls prog 118 #[.pointer (some ⟨R,0,none⟩)] w (Iu B0 R st w):=by
 obtain⟨a,n,cap,KP,l,hB0,hl,KS⟩:=hr;obtain⟨a',KR,hv,h1,h2,_⟩:=id hl;injection hv with e1 e2 e3;subst e1 e2 e3;unfold maxLen at h2;have hRl:=KP.lt;have c0:w.cell? ⟨R,0,none⟩=some (.slice a l.length cap):=KP.cell 0;have c1:w.cell? ⟨R,1,none⟩=some (.bool st.isNone):=KP.cell 1;have LO:=V KP;have HL:=V hl;have HS:=V KS;have O3:=V hB0;clear KP hl KS hB0;cases st with
 | none=>
  go_enter func118,ntmps118;go_wp2_with fail;refine(tx _ l 62 _ HL.out (by omega) (by omega)).mono ?_;rintro x w1 ⟨rfl,hb⟩;have KP:=LO.out.below hb hRl;have hl:=HL.out.below hb;have z0:=KP.free 0;have z1:=KP.free 1;have c0:w1.cell? ⟨R,0,none⟩=some (.slice a l.length cap):=KP.cell 0;have c1:w1.cell? ⟨R,1,none⟩=some (.bool true):=KP.cell 1;have M6:=V KP;have Qc:=V hl;clear KP hl;go_wp2_with fail;go_ret;have KJ:=M6.out.set 1 (.bool true);refine⟨rfl,⟨a,l.length,cap,by have h:=KJ;simp at h;exact h,l,O3.out,Qc.out.off M6.out (sE _ _),fun l' h=>by cases h⟩,(dU.dW hb).trans (sE _ _) (fun i h=> .inl h)⟩
 | some l0=>
  obtain rfl:=HS.out l0 rfl;by_cases hu:(ib 62 l0).2.2=0
  ·obtain⟨u,r,hu1,QJ,Lc⟩:=rJ hu
   obtain⟨a3,Me,Qd,hi3,hi4⟩:=oq QJ a cap;have hle:=cV List.length QJ;rw [ah]at hle;have hle2:(eP u).length <=l0.length:=by omega
   have HI3:=V hi3;have HR:=V (show fH (some l0)=(u,some r)by simp only [fH,Lc,cX,Prod.mk.injEq,true_and,aX];rw [QJ];exact c9);have HI4:=V hi4;have Ms:=V QJ;clear hi3 hi4 hu hle QJ;go_enter func118,ntmps118;go_wp2_with fail;refine(tx _ l0 62 _ HL.out (by omega) (by omega)).mono ?_;rintro x w1 ⟨rfl,hb⟩;rw [Lc];have KP:=LO.out.below hb hRl;have hl:=HL.out.below hb;have z0:=KP.free 0;have z1:=KP.free 1;have c0:w1.cell? ⟨R,0,none⟩=some (.slice a l0.length cap):=KP.cell 0;have c1:w1.cell? ⟨R,1,none⟩=some (.bool false):=KP.cell 1;have M6:=V KP;have Qc:=V hl;clear KP hl Lc;go_wp2_with fail;go_ret;have KJ:=(M6.out.set 1 (.bool false)).set 0 (.slice a3 r.length Me);have Mw:dU (fun k=>k=R) w1 ((w1.setCell ⟨R,1,none⟩ (.bool false)).setCell ⟨R,0,none⟩ (.slice a3 r.length Me)):=(sE 1 _).trans (sE 0 _) (fun i h=> .inl h);refine⟨by rw [HR.out];rfl,?_,(dU.dW hb).trans Mw (fun i h=> .inl h)⟩;rw [HR.out];exact⟨a3,r.length,Me,by simpa using KJ,r,fun Ma ad h=>(by obtain⟨ad0,g1,g2⟩:=HI4.out ad h;rw [g2];exact O3.out (by rw [Ms.out];intro g;exact Ma (dz.1 g).2) _ g1),(HI3.out _ Qc.out).off M6.out Mw,fun l' h=>by injection h with h;exact h.symm⟩
  ·have HR:=V (show fH (some l0)=(0,none)by simp only [fH];rw [aC hu])
   obtain⟨x,k,err,hr⟩:∃x k err,ib 62 l0=(x,k,err):=⟨_,_,_,rfl⟩;have f1:(err !=0)=true:=ff (fun h=>hu (by rw [hr];exact h));clear hu;go_enter func118,ntmps118;go_wp2_with fail;refine(tx _ l0 62 _ HL.out (by omega) (by omega)).mono ?_;rintro x w1 ⟨rfl,hb⟩;rw [hr];have KP:=LO.out.below hb hRl;have hl:=HL.out.below hb;have z0:=KP.free 0;have z1:=KP.free 1;have c0:w1.cell? ⟨R,0,none⟩=some (.slice a l0.length cap):=KP.cell 0;have c1:w1.cell? ⟨R,1,none⟩=some (.bool false):=KP.cell 1;have M6:=V KP;have Qc:=V hl;clear KP hl hr;go_wp2_with fail;go_ret;have KJ:=M6.out.set 1 (.bool true);refine⟨by rw [HR.out];rfl,?_,(dU.dW hb).trans (sE _ _) (fun i h=> .inl h)⟩;rw [HR.out];exact⟨a,l0.length,cap,by simpa using KJ,l0,O3.out,Qc.out.off M6.out (sE _ _),fun l' h=>by cases h⟩
theorem F5 (B0 R:Nat) (st:Option (List UInt8)) (w:World) (hr:Rd B0 w R st):Calls prog 234 #[.pointer (some ⟨R,0,none⟩)] w (IA B0 R st w):=by
 obtain⟨a,n,cap,KP,l,hB0,hl,KS⟩:=hr;obtain⟨a',KR,hv,h1,h2,_⟩:=id hl;injection hv with e1 e2 e3;subst e1 e2 e3;unfold maxLen at h2;have hRl:=KP.lt;have c0:w.cell? ⟨R,0,none⟩=some (.slice a l.length cap):=KP.cell 0;have c1:w.cell? ⟨R,1,none⟩=some (.bool st.isNone):=KP.cell 1;have LO:=V KP;have HL:=V hl;have HS:=V KS;have O3:=V hB0;clear KP hl KS hB0;cases st with
 | none=>
  go_enter func234,ntmps234;go_wp2_with fail;refine(BZ _ l 64 _ HL.out (by omega) (by omega)).mono ?_;rintro x w1 ⟨rfl,hb⟩;have KP:=LO.out.below hb hRl;have hl:=HL.out.below hb;have z0:=KP.free 0;have z1:=KP.free 1;have c0:w1.cell? ⟨R,0,none⟩=some (.slice a l.length cap):=KP.cell 0;have c1:w1.cell? ⟨R,1,none⟩=some (.bool true):=KP.cell 1;have M6:=V KP;have Qc:=V hl;clear KP hl;go_wp2_with fail;go_ret;have KJ:=M6.out.set 1 (.bool true);refine⟨rfl,⟨a,l.length,cap,by have h:=KJ;simp at h;exact h,l,O3.out,Qc.out.off M6.out (sE _ _),fun l' h=>by cases h⟩,(dU.dW hb).trans (sE _ _) (fun i h=> .inl h)⟩
 | some l0=>
  obtain rfl:=HS.out l0 rfl;by_cases hu:(jq 64 l0).2.2=0
  ·obtain⟨u,r,hu1,QJ,Lc⟩:=wL hu
   obtain⟨a3,Me,Qd,hi3,hi4⟩:=oq QJ a cap;have hle:=cV List.length QJ;rw [ah]at hle;have hle2:(ie u).length <=l0.length:=by omega
   have HI3:=V hi3;have HR:=V (show nz (some l0)=(u,some r)by simp only [nz,Lc,cX,Prod.mk.injEq,true_and,aX];rw [QJ];exact c9);have HI4:=V hi4;have Ms:=V QJ;clear hi3 hi4 hu hle QJ;go_enter func234,ntmps234;go_wp2_with fail;refine(BZ _ l0 64 _ HL.out (by omega) (by omega)).mono ?_;rintro x w1 ⟨rfl,hb⟩;rw [Lc];have KP:=LO.out.below hb hRl;have hl:=HL.out.below hb;have z0:=KP.free 0;have z1:=KP.free 1;have c0:w1.cell? ⟨R,0,none⟩=some (.slice a l0.length cap):=KP.cell 0;have c1:w1.cell? ⟨R,1,none⟩=some (.bool false):=KP.cell 1;have M6:=V KP;have Qc:=V hl;clear KP hl Lc;go_wp2_with fail;go_ret;have KJ:=(M6.out.set 1 (.bool false)).set 0 (.slice a3 r.length Me);have Mw:dU (fun k=>k=R) w1 ((w1.setCell ⟨R,1,none⟩ (.bool false)).setCell ⟨R,0,none⟩ (.slice a3 r.length Me)):=(sE 1 _).trans (sE 0 _) (fun i h=> .inl h);refine⟨by rw [HR.out];rfl,?_,(dU.dW hb).trans Mw (fun i h=> .inl h)⟩;rw [HR.out];exact⟨a3,r.length,Me,by simpa using KJ,r,fun Ma ad h=>(by obtain⟨ad0,g1,g2⟩:=HI4.out ad h;rw [g2];exact O3.out (by rw [Ms.out];intro g;exact Ma (dz.1 g).2) _ g1),(HI3.out _ Qc.out).off M6.out Mw,fun l' h=>by injection h with h;exact h.symm⟩
  ·have HR:=V (show nz (some l0)=(0,none)by simp only [nz];rw [aC hu])
   obtain⟨x,k,err,hr⟩:∃x k err,jq 64 l0=(x,k,err):=⟨_,_,_,rfl⟩;have f1:(err !=0)=true:=ff (fun h=>hu (by rw [hr];exact h));clear hu;go_enter func234,ntmps234;go_wp2_with fail;refine(BZ _ l0 64 _ HL.out (by omega) (by omega)).mono ?_;rintro x w1 ⟨rfl,hb⟩;rw [hr];have KP:=LO.out.below hb hRl;have hl:=HL.out.below hb;have z0:=KP.free 0;have z1:=KP.free 1;have c0:w1.cell? ⟨R,0,none⟩=some (.slice a l0.length cap):=KP.cell 0;have c1:w1.cell? ⟨R,1,none⟩=some (.bool false):=KP.cell 1;have M6:=V KP;have Qc:=V hl;clear KP hl hr;go_wp2_with fail;go_ret;have KJ:=M6.out.set 1 (.bool true);refine⟨by rw [HR.out];rfl,?_,(dU.dW hb).trans (sE _ _) (fun i h=> .inl h)⟩;rw [HR.out];exact⟨a,l0.length,cap,by simpa using KJ,l0,O3.out,Qc.out.off M6.out (sE _ _),fun l' h=>by cases h⟩
def pU:Nat ->Option (List UInt8) ->List fa × Option (List UInt8)
 | 0,st=>([],st)
 | _+1,none=>([],none)
 | n+1,some l=>(⟨(fH (some l)).1,(nz (fH (some l)).2).1⟩::(pU n (nz (fH (some l)).2).2).1,(pU n (nz (fH (some l)).2).2).2)
def jd (st:Option (List UInt8)):List fa × Option (List UInt8):=pU (fH st).1 (fH st).2
theorem Az (n:Nat):pU n none=([],none):=by cases n <;>rfl
theorem vV:∀(l:List fa) (r:List UInt8),(∀v∈l,v.may/\v.ok) ->pU l.length (some ((l.map qZ).flatten++r))=(l,some r)
 | [],r,_=>rfl
 | v::l,r,h=>by
  obtain⟨hm,hk⟩:=h v (by simp);have h0:0 <=v.kind/\v.kind <=2:=by rcases hm with g | g <;>omega
  have e1:((v::l).map qZ).flatten++r=eP v.kind.toNat++(ie v.n++((l.map qZ).flatten++r)):=by simp [qZ]
  have e2:((v.kind.toNat:Nat):Int)=v.kind:=by omega
  rw [e1,aI,pU,jY _ _ (by omega)];simp only [Du v.n _ hk.2.1 hk.2.2,vV l r (fun x hx=>h x (by simp [hx])),e2]
theorem wO (l:List fa) (r:List UInt8) (h:∀v∈l,v.may/\v.ok) (hl:l.length <=1000000):jd (some (jI l++r))=(l,some r):=by
 rw [jd,jI,aP,jY _ _ (by omega)];exact vV l r h
def Hp (B0 Rb:Nat) (st:Option (List UInt8)) (w:World) (e:Ending) (w':World):Prop:=
 ∃v,e= .returned v/\dT 42 2 gb w' w.heap.size v (jd st).1/\(∀x∈(jd st).1,x.ok)/\(jd st).1.length+oG (jd st).2 <=oG st/\Rd B0 w' Rb (jd st).2/\dU (fun k=>k=Rb) w w'
def Ji (B0 Rb:Nat) (Ge:Option (List UInt8)) (w w':World) (v:Value) (acc:List fa) (n:Nat) (st:Option (List UInt8)):Prop:=
 jd Ge=(acc++(pU n st).1,(pU n st).2)/\dT 42 2 gb w' w.heap.size v acc/\(∀x∈acc,x.ok)/\acc.length+oG st <=oG Ge/\Rd B0 w' Rb st/\dU (fun k=>k=Rb) w w'/\n < 4611686018427387904
theorem kb:(prog.info? 42).map (fun i=>(i.zero,i.size,i.bytes))=some (some (.agg #[.int .i64 0, .int .i64 0]),2,16):=by kernel_rfl
theorem vR (B0 Rb:Nat) (st:Option (List UInt8)) (w:World) (hr:Rd B0 w Rb st) (hl:oG st <=500000) (hB0:B0 <=w.heap.size):Calls prog 117 #[.pointer (some ⟨Rb,0,none⟩)] w (Hp B0 Rb st w):=by
 have hR:Rb < w.heap.size:=by obtain⟨_,_,_,hb,_,_⟩:=hr;exact hb.lt
 go_enter func117,ntmps117;go_wp2_with fail;refine(kk B0 Rb st w hr).mono ?_;rintro x w1 ⟨rfl,Pa,LN⟩;go_wp2_with fail;refine eB (fun a' w'=>∃(v:Value) (acc:List fa) (n:Nat) (s:Option (List UInt8)),a'=fr (.pointer (some ⟨Rb,0,none⟩)::gs a' 1 2 (v:: .int .i64 n::gs a' 5 22 []))/\Ji B0 Rb st w w' v acc n s) (fun a' _=>(intOf (a'.tmps.getD 4 undef)).toNat) ?_ ?_
 ·exact⟨_,[],(fH st).1,(fH st).2,rfl,by simp [jd],dT.nil _ _,by simp,by have:=mF st;simpa using this,Pa,LN,lE st⟩
 ·clear LN Pa
  rintro R a' w1 ⟨v,acc,n,s,Kw,hJ⟩ HR;dsimp only [fr,gs]at Kw;generalize slot a'=f at Kw;subst Kw;obtain⟨hv,ho,KF,hlen,Lp,hk,hn⟩:=hJ;have K5:=V Lp;obtain⟨ar,nr,Pb,KP,_⟩:=Lp;have c1:w1.cell? ⟨Rb,1,none⟩=some (.bool s.isNone):=KP.cell 1;have HV:=V hv;have LH:=V KF;have Lr:=hk.size;clear hv KF KP;rcases aZ n with L8 | L8
  ·subst L8
   go_wp2_with fail;go_ret;have h1:=HV.out;rw [pU,bO]at h1;refine⟨v,rfl,?_,?_,?_,?_,hk⟩
   ·rw [h1];exact ho
   ·rw [h1];exact LH.out
   ·rw [h1];exact hlen
   ·rw [h1];exact K5.out
  have f0:decide ((0:Int) < (n:Int))=true:=aA (by omega);cases s with
  | none=>
   have c1:w1.cell? ⟨Rb,1,none⟩=some (.bool true):=c1;go_wp2_with fail;go_ret;have h1:=HV.out;rw [Az,bO]at h1;refine⟨v,rfl,?_,?_,?_,?_,hk⟩
   ·rw [h1];exact ho
   ·rw [h1];exact LH.out
   ·rw [h1];exact hlen
   ·rw [h1];exact K5.out
  | some l=>
   have c1:w1.cell? ⟨Rb,1,none⟩=some (.bool false):=c1;have Lz:∀i,eA v i ->¬ i=Rb:=fun i hi=>by have:=(et ho hi).1;omega
   have LZ:=sL l;have KG:=G9 (fH (some l)).2;have hn1:=lE (some l);obtain⟨OJ,M7⟩:=GB (fH (some l)).2;have MK:acc.length <=500000:=by omega
   have HS:=V (show acc.length+1+oG (nz (fH (some l)).2).2 <=oG st by omega);have P1:=V Lz;clear LZ KG hlen Lz;go_wp2_with fail;refine(kk B0 Rb (some l) w1 K5.out).mono ?_;rintro x w2 ⟨rfl,ND,KB⟩;have LI:=V ND;clear K5 ND c1;go_wp2_with fail;refine(F5 B0 Rb _ w2 LI.out).mono ?_;rintro x w3 ⟨rfl,Qd,K7⟩;have Qb:dU (fun k=>k=Rb) w1 w3:=KB.trans K7 (fun i h=> .inl h);have LD:dT 42 2 gb w3 w.heap.size v acc:=ho.keeps Qb P1.out;have N2:=Qb.size;obtain⟨n',rfl⟩:∃n',n=n'+1:=⟨n - 1,by omega⟩;have ML:=V Qd;clear LI Qd KB K7;generalize Mv:(fH (some l)).1=x0 at hn1;generalize hy0:(nz (fH (some l)).2).1=y0 at OJ M7;have HX:=V Mv;have HY:=V hy0;clear Mv hy0;go_wp2_with (first | (at_builtin;refine Stop.out ?_));change wpList _ _ _ _ _ _;refine eT w3 rfl _ _ 30 rfl _ 16 (by kernel_rfl) kb rfl (by decide) (by decide) w.heap.size v acc rfl LD ⟨x0,y0⟩ _ rfl rfl (lT _) rfl (by omega) (by omega) ?_;intro v4 w4 LP Of Mb;have hRd4:Rd B0 w4 Rb (nz (fH (some l)).2).2:=ML.out.keeps Of (fun h=>P1.out _ h rfl) (fun i hi=>by have:=(et LD hi).1;omega);have hk14:dU (fun k=>k=Rb) w w4:=(hk.trans Qb (fun i h=> .inl h)).trans Of (fun i h=> .inr (et LD h).1);clear Of Mb Qb hk ho LD;go_wp2_with fail;refine HR.out _ _ ⟨v4,acc++[⟨x0,y0⟩],n',(nz (fH (some l)).2).2,rfl,?_,LP,?_,?_,hRd4,hk14,by omega⟩ ?_
   ·rw [HV.out,pU,HX.out,HY.out]
    simp
   ·intro z hz
    rcases bx.1 hz with h | h
    ·exact LH.out z h
    ·obtain rfl:=aV.1 h
     exact⟨⟨by show(-9223372036854775808:Int) <=(x0:Int);omega,by show(x0:Int) <=9223372036854775807;omega⟩,OJ,M7⟩
   ·rw [ah]
    exact HS.out
   ·simp [intOf]
structure kR where
 pos:Int
 eM:Int
deriving DecidableEq
def kp (l:kR):List Value:=[.int .i64 l.pos, .int .i64 l.eM]
theorem lK (l:kR):(kp l).length=2:=rfl
theorem xV (l:kR):∀u∈kp l,u.oneCell'=true:=by
 intro u hu;simp only [kp,bB,bJ,cM]at hu;rcases hu with rfl | rfl <;>rfl
structure eV where
 fn:Int
 pc:Int
 locals:List fa
 base:Int
 labels:List kR
deriving DecidableEq
def lZ (x:eV × Value × Value):List Value:=[.int .i64 x.1.fn, .int .i64 x.1.pc,x.2.1, .int .i64 x.1.base,x.2.2]
theorem iw (x:eV × Value × Value):(lZ x).length=5:=rfl
structure gL where
 dZ:List fa
 eh:List eV
 asks:Int
deriving DecidableEq
def iI (n:Int):Prop:= -9223372036854775808 <=n/\n <=9223372036854775807
def kR.ok (l:kR):Prop:=iI l.pos/\iI l.eM
def eV.ok (f:eV):Prop:=iI f.fn/\iI f.pc/\iI f.base/\(∀v∈f.locals,v.ok)/\∀l∈f.labels,l.ok
def gL.ok (s:gL):Prop:=iI s.asks/\(∀v∈s.dZ,v.ok)/\∀f∈s.eh,f.ok
def fY (w:World) (v:Value) (l:List eV):Prop:=
 ∃us:List (Value × Value),us.length=l.length/\eg 5 lZ w v (l.zip us)/\
  (∀(i:Nat) (f:eV) (u:Value × Value),l[i]?=some f ->us[i]?=some u ->eg 2 gb w u.1 f.locals/\eg 2 kp w u.2 f.labels)/\∀f∈l,f.ok
theorem fY.below {w w':World} {v:Value} {l:List eV} (h:fY w v l) (hb:Below w.heap.size w w'):fY w' v l:=by
 obtain⟨us,h1,h2,h3,h4⟩:=h;exact⟨us,h1,h2.below hb,fun i c u hc hu=>⟨(h3 i c u hc hu).1.below hb,(h3 i c u hc hu).2.below hb⟩,h4⟩
theorem fY.nil (w:World):fY w (.slice none 0 0) []:=⟨[],rfl,eg.nil w,by simp,by simp⟩
theorem fY.slice {w:World} {v:Value} {l:List eV} (h:fY w v l):∃a cap,v= .slice a l.length cap/\l.length <=cap/\cap <=9223372036854775807:=by
 obtain⟨us,h1,⟨a,cap,hv,h2,h3,_⟩,_⟩:=h;have:(l.zip us).length=l.length:=by rw [bG,h1,bZ]
 rw [this]at hv h2;exact⟨a,cap,hv,h2,h3⟩
theorem fY.get {w:World} {a:Option Addr} {n cap:Nat} {l:List eV} (h:fY w (.slice a n cap) l) {k:Nat} {f:eV} (hf:l[k]?=some f):∃b off u x,a=some ⟨b,off,none⟩/\b < w.heap.size/\
  (w.cell? ⟨b,off+k*5,none⟩=some (.int .i64 f.fn)/\w.cell? ⟨b,off+k*5+1,none⟩=some (.int .i64 f.pc)/\w.cell? ⟨b,off+k*5+2,none⟩=some u/\w.cell? ⟨b,off+k*5+3,none⟩=some (.int .i64 f.base)/\
   w.cell? ⟨b,off+k*5+4,none⟩=some x)/\eg 2 gb w u f.locals/\eg 2 kp w x f.labels/\f.ok:=by
 obtain⟨us,h1,⟨a',KR,hv,_,_,h2⟩,h3,h4⟩:=h;injection hv with e1 e2 e3;subst e1;have hk:k < us.length:=by rw [h1];exact(aN.1 hf).1
 have hu:=aq hk;have hz:(l.zip us)[k]?=some (f,us[k]):=(cI (z:=(f,us[k]))).2 ⟨hf,hu⟩;obtain⟨b,off,ha,KC,Ln⟩:=h2 k _ hz;obtain⟨g1,g2⟩:=h3 k f _ hf hu;exact⟨b,off,us[k].1,us[k].2,ha,KC,⟨Ln 0 _ rfl,Ln 1 _ rfl,Ln 2 _ rfl,Ln 3 _ rfl,Ln 4 _ rfl⟩,g1,g2,h4 f (aO hf)⟩
def jA (w:World) (uv uf:Value) (s:gL):Prop:=eg 2 gb w uv s.dZ/\fY w uf s.eh/\s.ok
theorem jA.below {w w':World} {uv uf:Value} {s:gL} (h:jA w uv uf s) (hb:Below w.heap.size w w'):jA w' uv uf s:=⟨h.1.below hb,h.2.1.below hb,h.2.2⟩
def oV (n:Int):Bool:=decide (n < 0) || decide (10000 < n)
theorem lf {n:Int}:oV n=false↔0 <=n/\n <=10000:=by
 simp only [oV,dq,decide_eq_false_iff_not];omega
theorem wW {n:Int}:oV n=true↔¬ (0 <=n/\n <=10000):=by
 rw [<- lf];simp
def kR.may (l:kR):Prop:=(0 <=l.pos/\l.pos <=10000)/\(0 <=l.eM/\l.eM <=10000)
instance (l:kR):Decidable l.may:=by unfold kR.may;infer_instance
def eV.may (f:eV):Prop:=
 (∀l∈f.labels,l.may)/\f.labels.length <=40/\f.locals.length <=32/\(∀v∈f.locals,v.may)/\(0 <=f.fn/\f.fn <=10000)/\(0 <=f.pc/\f.pc <=10000)/\(0 <=f.base/\f.base <=10000)
instance (f:eV):Decidable f.may:=by unfold eV.may;infer_instance
def gL.may (s:gL):Prop:=s.dZ.length <=1000/\s.eh.length <=32/\ -1 <=s.asks/\s.asks <=10000/\(∀v∈s.dZ,v.may)/\∀f∈s.eh,f.may
instance (s:gL):Decidable s.may:=by unfold gL.may;infer_instance
def pj (l:kR):List UInt8:=eP l.pos.toNat++eP l.eM.toNat
def BD (l:List kR):List UInt8:=eP l.length++(l.map pj).flatten
def n4 (f:eV):List UInt8:=jI f.locals++eP f.fn.toNat++eP f.pc.toNat++eP f.base.toNat++BD f.labels
def hH (l:List eV):List UInt8:=(l.map n4).flatten
def iP (s:gL):List UInt8:=jI s.dZ++eP (s.asks+1).toNat++eP s.eh.length++hH s.eh
theorem ud:∀l:List kR,((l.map pj).flatten).length <=20*l.length
 | []=>by simp
 | e::l=>by
  have h1:=(eF e.pos.toNat).2;have h2:=(eF e.eM.toNat).2;have h3:=ud l;simp only [bA,bS,ah,aI,pj]at*;omega
theorem AO {f:eV} (hm:f.may) (ho:f.ok):(n4 f).length <=1600:=by
 have h0:=(eF f.fn.toNat).2;have h1:=(eF f.pc.toNat).2;have h2:=(eF f.base.toNat).2;have h3:=(eF f.locals.length).2;have h4:=nG f.locals ho.2.2.2.1;have h5:=(eF f.labels.length).2;have h6:=ud f.labels;have h7:=hm.2.1;have h8:=hm.2.2.1;simp only [n4,jI,BD,ah];omega
theorem oT:∀l:List eV,(∀f∈l,f.may/\f.ok) ->(hH l).length <=1600*l.length
 | [],_=>by simp [hH]
 | f::l,h=>by
  have h1:=AO (h f (by simp)).1 (h f (by simp)).2;have h2:=oT l (fun x hx=>h x (by simp [hx]));simp only [hH,bA,bS,ah,aI]at*;omega
theorem zG (a b:List eV):hH (a++b)=hH a++hH b:=by simp [hH]
def nF:Nat ->Option (List UInt8) ->List kR × Option (List UInt8)
 | 0,st=>([],st)
 | _+1,none=>([],none)
 | n+1,some l=>(⟨(fH (some l)).1,(fH (fH (some l)).2).1⟩::(nF n (fH (fH (some l)).2).2).1,(nF n (fH (fH (some l)).2).2).2)
theorem An (n:Nat):nF n none=([],none):=by cases n <;>rfl
def ot (st:Option (List UInt8)):eV × Option (List UInt8):=
 (⟨(fH (jd st).2).1,(fH (fH (jd st).2).2).1,(jd st).1,(fH (fH (fH (jd st).2).2).2).1,
  (nF (fH (fH (fH (fH (jd st).2).2).2).2).1 (fH (fH (fH (fH (jd st).2).2).2).2).2).1⟩,
  (nF (fH (fH (fH (fH (jd st).2).2).2).2).1 (fH (fH (fH (fH (jd st).2).2).2).2).2).2)
def jR:Nat ->Option (List UInt8) ->List eV × Option (List UInt8)
 | 0,st=>([],st)
 | _+1,none=>([],none)
 | n+1,some l=>((ot (some l)).1::(jR n (ot (some l)).2).1,(jR n (ot (some l)).2).2)
theorem xv (n:Nat):jR n none=([],none):=by cases n <;>rfl
def qc (st:Option (List UInt8)):gL × Option (List UInt8):=
 (⟨(jd st).1,(jR (fH (fH (jd st).2).2).1 (fH (fH (jd st).2).2).2).1,(fH (jd st).2).1 - 1⟩,(jR (fH (fH (jd st).2).2).1 (fH (fH (jd st).2).2).2).2)
theorem wI:∀(l:List kR) (r:List UInt8),(∀e∈l,e.may) ->nF l.length (some ((l.map pj).flatten++r))=(l,some r)
 | [],r,_=>rfl
 | e::l,r,h=>by
  obtain⟨⟨h0,h1⟩,h2,h3⟩:=h e (by simp);have e1:((e::l).map pj).flatten++r=eP e.pos.toNat++(eP e.eM.toNat++((l.map pj).flatten++r)):=by simp [pj]
  have g1:((e.pos.toNat:Nat):Int)=e.pos:=by omega
  have g2:((e.eM.toNat:Nat):Int)=e.eM:=by omega
  rw [e1,aI,nF,jY _ _ (by omega)];simp only [jY e.eM.toNat _ (by omega),wI l r (fun x hx=>h x (by simp [hx])),g1,g2]
theorem z5 (f:eV) (r:List UInt8) (hm:f.may) (ho:f.ok):ot (some (n4 f++r))=(f,some r):=by
 obtain⟨m1,m2,m3,m4,⟨m5,m6⟩,⟨m7,m8⟩,m9,m10⟩:=hm;have e1:n4 f++r=jI f.locals++(eP f.fn.toNat++(eP f.pc.toNat++(eP f.base.toNat++(eP f.labels.length++((f.labels.map pj).flatten++r))))):=by simp [n4,BD]
 have g1:((f.fn.toNat:Nat):Int)=f.fn:=by omega
 have g2:((f.pc.toNat:Nat):Int)=f.pc:=by omega
 have g3:((f.base.toNat:Nat):Int)=f.base:=by omega
 have h0:∀r,jd (some (jI f.locals++r))=(f.locals,some r):=fun r=>wO _ r (fun v hv=>⟨m4 v hv,ho.2.2.2.1 v hv⟩) (by omega);have h1:∀r,fH (some (eP f.fn.toNat++r))=(f.fn.toNat,some r):=fun r=>jY _ r (by omega);have h2:∀r,fH (some (eP f.pc.toNat++r))=(f.pc.toNat,some r):=fun r=>jY _ r (by omega);have h3:∀r,fH (some (eP f.base.toNat++r))=(f.base.toNat,some r):=fun r=>jY _ r (by omega);have h4:∀r,fH (some (eP f.labels.length++r))=(f.labels.length,some r):=fun r=>jY _ r (by omega);have h5:nF f.labels.length (some ((f.labels.map pj).flatten++r))=(f.labels,some r):=wI _ r m1;rw [e1,ot];simp only [h0,h1,h2,h3,h4,h5,g1,g2,g3]
theorem sx:∀(l:List eV) (r:List UInt8),(∀f∈l,f.may/\f.ok) ->jR l.length (some (hH l++r))=(l,some r)
 | [],r,_=>rfl
 | f::l,r,h=>by
  obtain⟨hm,hk⟩:=h f (by simp);have e1:hH (f::l)++r=n4 f++(hH l++r):=by simp [hH]
  rw [e1,aI,jR,z5 f _ hm hk];simp only [sx l r (fun x hx=>h x (by simp [hx]))]
theorem mV (s:gL) (hm:s.may) (ho:s.ok):qc (some (iP s))=(s,some []):=by
 obtain⟨m1,m2,m3,m4,m5,m6⟩:=hm;have e1:iP s=jI s.dZ++(eP (s.asks+1).toNat++(eP s.eh.length++(hH s.eh++[]))):=by simp [iP]
 have g1:(((s.asks+1).toNat:Nat):Int) - 1=s.asks:=by omega
 have h0:∀r,jd (some (jI s.dZ++r))=(s.dZ,some r):=fun r=>wO _ r (fun v hv=>⟨m5 v hv,ho.2.1 v hv⟩) (by omega);have h1:∀r,fH (some (eP (s.asks+1).toNat++r))=((s.asks+1).toNat,some r):=fun r=>jY _ r (by omega);have h2:∀r,fH (some (eP s.eh.length++r))=(s.eh.length,some r):=fun r=>jY _ r (by omega);have h3:jR s.eh.length (some (hH s.eh++[]))=(s.eh,some []):=sx _ _ (fun f hf=>⟨m6 f hf,ho.2.2 f hf⟩);rw [e1,qc];simp only [h0,h1,h2,h3,g1]
theorem Bp {a b:gL} (ha:a.may) (hao:a.ok) (hb:b.may) (Lh:b.ok) (h:iP a=iP b):a=b:=by
 have h1:=mV a ha hao;have h2:=mV b hb Lh;rw [h,h2]at h1;injection h1 with h1 _;exact h1.symm
theorem vN (s:gL):iP s≠[]:=by
 intro h;simp only [iP,jI,dz]at h;have:=(eF s.dZ.length).1;rw [h.1.1.1.1]at this;simp at this
theorem Bj {s:gL} (h:s.may) (ho:s.ok):1 <=(iP s).length/\(iP s).length <=100000:=by
 have g1:=eF s.dZ.length;have g2:=nG s.dZ ho.2.1;have g3:=(eF (s.asks+1).toNat).2;have g4:=(eF s.eh.length).2;have g5:=oT s.eh (fun f hf=>⟨h.2.2.2.2.2 f hf,ho.2.2 f hf⟩);have g6:=h.1;have g7:=h.2.1;simp only [iP,jI,ah];omega
theorem vE (v:fa) (w:World):Calls prog 238 #[.agg #[.int .i64 v.kind, .int .i64 v.n]] w (ew (!decide v.may) w):=by
 go_enter func238,ntmps238;go_wp2_with fail;refine(ni v _).mono ?_;rintro e w2 ⟨rfl,hb⟩;replace hb:=((an w.heap.size w).alloc (ag _) _).trans (hb.mono (by simp));go_wp2_with fail;go_ret;exact⟨rfl,hb⟩
def tb (v:fa):Bool:= !decide v.may
theorem As (v:Value) (l:List fa) (w:World) (hl:eg 2 gb w v l):
  Calls prog 283 #[v, .func (.func 238) #[] #[]] w (jU tb l w):=by
 have HI:=V hl;obtain⟨a,cap,rfl,h1,h2,_⟩:=hl;unfold maxLen at h2;go_enter func283,ntmps283;go_wp2_with fail;refine eB (fun a' w'=>∃(k:Nat),a'=fr (.slice a l.length cap:: .func (.func 238) #[] #[]::gs a' 2 5 (.int .i64 l.length:: .int .i64 k::gs a' 9 10 []))/\pK tb l w w' k) (fun a' _=>(l.length - (intOf (a'.tmps.getD 8 undef)).toNat)) ?_ ?_
 ·exact⟨0,rfl,by omega,fun i hi=>by omega,an _ _⟩
 ·skip
  rintro R a' w1 ⟨k,Kw,hJ⟩ HR;dsimp only [fr,gs]at Kw;generalize slot a'=f at Kw;subst Kw;obtain⟨hk,hm,hb⟩:=hJ;have Lv:=V hm;clear hm;by_cases Ls:k < l.length
  ·obtain⟨e,he⟩:∃e,l[k]?=some e:=⟨_,aq Ls⟩
   obtain⟨a',KR,hv,_,_,Kt⟩:=HI.out.below (hb.mono (ag _));injection hv with e1 e2 e3;subst e1 e3;obtain⟨b,off,rfl,KC,hc⟩:=Kt k e he;have c0:=hc 0 _ rfl;have c1:=hc 1 _ rfl;rw [aL]at c0;have HE:=V he;clear Kt e2 he hc;have KE:=vE e w1;cases hq:tb e
   all_goals
    rw [show(!decide e.may)=tb e from rfl,hq]at KE;have HQ:=V hq;clear hq;go_wp2_with fail;refine KE.mono ?_;rintro x w2 ⟨rfl,Kx⟩;replace hb:=dY hb Kx;clear KE c0 c1 Kx;go_wp2_with fail
   ·refine HR.out _ _ ⟨k+1,rfl,by omega,?_,hb⟩ ?_
    ·intro i hi d hd
     rcases bC i k with h | h
     ·exact Lv.out i h d hd
     ·obtain rfl:i=k:=by omega
      rw [HE.out]at hd;injection hd with hd;rw [<- hd];exact HQ.out
    ·simp [intOf]
     omega
   ·go_ret
    exact⟨by rw [ic HE.out HQ.out Lv.out];rfl,hb⟩
  ·obtain rfl:k=l.length:=by omega
   go_wp2_with fail;go_ret;exact⟨by rw [gO Lv.out];rfl,hb⟩
theorem Ad (v:Value) (l:List fa) (w:World) (hl:eg 2 gb w v l):
  Calls prog 237 #[v, .func (.func 238) #[] #[]] w (ew (l.any tb) w):=by
 go_enter func237,ntmps237;go_wp2_with fail;refine(As v l _ hl).mono ?_;rintro x w2 ⟨rfl,hb⟩;go_wp2_with fail;go_ret;exact⟨by rw [<- iu];rfl,hb⟩
theorem vz (n:Int) (w:World):Calls prog 241 #[.int .i64 n] w (ew (oV n) w):=by
 by_cases q0:n < 0
 ·have f0:decide (n < 0)=true:=aA q0
  have HB:=V (show oV n=true by rw [oV,f0];rfl);go_enter func241,ntmps241;go_wp2_with fail;go_ret;exact⟨by rw [HB.out];rfl,an _ _⟩
 have f0:decide (n < 0)=false:=az q0;by_cases q1:10000 < n
 ·have f1:decide (10000 < n)=true:=aA q1
  have HB:=V (show oV n=true by rw [oV,f0,f1];rfl);go_enter func241,ntmps241;go_wp2_with fail;go_ret;exact⟨by rw [HB.out];rfl,an _ _⟩
 ·have f1:decide (10000 < n)=false:=az q1
  have HB:=V (show oV n=false by rw [oV,f0,f1];rfl);go_enter func241,ntmps241;go_wp2_with fail;go_ret;exact⟨by rw [HB.out];rfl,an _ _⟩
def fb (n:Int):List Value:=[.int .i64 n]
theorem AI (v:Value) (l:List Int) (w:World) (hl:eg 1 fb w v l):
  Calls prog 100 #[v, .func (.func 241) #[] #[]] w (jU oV l w):=by
 have HI:=V hl;have hl':=hl;obtain⟨a,cap,rfl,h1,h2,_⟩:=hl';unfold maxLen at h2;clear hl;go_enter func100,ntmps100;go_wp2_with fail;refine eB (fun a' w'=>∃(k:Nat),a'=fr (.slice a l.length cap:: .func (.func 241) #[] #[]::gs a' 2 5 (.int .i64 l.length:: .int .i64 k::gs a' 9 10 []))/\pK oV l w w' k) (fun a' _=>(l.length - (intOf (a'.tmps.getD 8 undef)).toNat)) ?_ ?_
 ·exact⟨0,rfl,by omega,fun i hi=>by omega,an _ _⟩
 ·skip
  rintro R a' w1 ⟨k,Kw,hJ⟩ HR;dsimp only [fr,gs]at Kw;generalize slot a'=f at Kw;subst Kw;obtain⟨hk,hm,hb⟩:=hJ;have Lv:=V hm;clear hm;by_cases Ls:k < l.length;rotate_left
  ·obtain rfl:k=l.length:=by omega
   go_wp2_with fail;go_ret;exact⟨by rw [gO Lv.out];rfl,hb⟩
  obtain⟨e,he⟩:∃e,l[k]?=some e:=⟨_,aq Ls⟩;obtain⟨a',KR,hv,_,_,Kt⟩:=HI.out.below (hb.mono (ag _));injection hv with e1 e2 e3;subst e1 e3;obtain⟨b,off,rfl,KC,hc⟩:=Kt k e he;have c0:=hc 0 _ rfl;rw [aL,bo]at c0;have HE:=V he;clear Kt e2 he hc;have KE:=vz e w1;cases hq:oV e
  all_goals
   rw [hq]at KE;have HQ:=V hq;clear hq;go_wp2_with fail;refine KE.mono ?_;rintro x w2 ⟨rfl,Kx⟩;replace hb:=dY hb Kx;clear KE Kx;go_wp2_with fail
  ·refine HR.out _ _ ⟨k+1,rfl,by omega,?_,hb⟩ ?_
   ·intro i hi d hd
    rcases bC i k with h | h
    ·exact Lv.out i h d hd
    ·obtain rfl:i=k:=by omega
     rw [HE.out]at hd;injection hd with hd;rw [<- hd];exact HQ.out
   ·simp [intOf]
    omega
  ·go_ret
   exact⟨by rw [ic HE.out HQ.out Lv.out];rfl,hb⟩
theorem y7 (v:Value) (l:List Int) (w:World) (hl:eg 1 fb w v l):
  Calls prog 63 #[v, .func (.func 241) #[] #[]] w (ew (l.any oV) w):=by
 go_enter func63,ntmps63;go_wp2_with fail;refine(AI v l _ hl).mono ?_;rintro x w2 ⟨rfl,hb⟩;go_wp2_with fail;go_ret;exact⟨by rw [<- iu];rfl,hb⟩
theorem vI (v:Value) (l:List Int) (w:World) (hl:eg 1 fb w v l):Calls prog 128 #[v] w (ew (!l.any oV) w):=by
 go_enter func128,ntmps128;go_wp2_with fail;refine(y7 v l _ hl).mono ?_;rintro x w2 ⟨rfl,hb⟩;go_wp2_with fail;go_ret;exact⟨rfl,hb⟩
theorem td (v:Value) (l:List fa) (w:World) (hl:eg 2 gb w v l):Calls prog 123 #[v] w (ew (!l.any tb) w):=by
 go_enter func123,ntmps123;go_wp2_with fail;refine(Ad v l _ hl).mono ?_;rintro x w2 ⟨rfl,hb⟩;go_wp2_with fail;go_ret;exact⟨rfl,hb⟩
theorem pz (w:World) (x y:Int) (t:TypeId):eg 1 fb (w.alloc (.cells #[.int .i64 x, .int .i64 y] t)) (.slice (some ⟨w.heap.size,0,none⟩) 2 2) [x,y]:=by
 refine⟨_,2,rfl,ag _,by simp [maxLen],fun i z hz=>⟨w.heap.size,0,rfl,by simp,fun j v hv=>?_⟩⟩;rw [bQ]
 match j,hv with
 | 0,hv=>
  simp [fb]at hv;subst hv
  match i,hz with
  | 0,hz=>simp at hz;subst hz;rfl
  | 1,hz=>simp at hz;subst hz;rfl
  | i+2,hz=>simp at hz
 | j+1,hv=>simp [fb]at hv
theorem CE (w:World) (x y z:Int) (t:TypeId):eg 1 fb (w.alloc (.cells #[.int .i64 x, .int .i64 y, .int .i64 z] t)) (.slice (some ⟨w.heap.size,0,none⟩) 3 3) [x,y,z]:=by
 refine⟨_,3,rfl,ag _,by simp [maxLen],fun i q hq=>⟨w.heap.size,0,rfl,by simp,fun j v hv=>?_⟩⟩;rw [bQ]
 match j,hv with
 | 0,hv=>
  simp [fb]at hv;subst hv
  match i,hq with
  | 0,hq=>simp at hq;subst hq;rfl
  | 1,hq=>simp at hq;subst hq;rfl
  | 2,hq=>simp at hq;subst hq;rfl
  | i+3,hq=>simp at hq
 | j+1,hv=>simp [fb]at hv
def sD (l:kR):Bool:= !decide l.may
theorem zh (l:kR) (w:World):Calls prog 127 #[.agg #[.int .i64 l.pos, .int .i64 l.eM]] w (ew (sD l) w):=by
 have hd:([l.pos,l.eM].any oV)=sD l:=by
  by_cases h:l.may
  ·rw [sD,aA h]
   simp [lf.2 h.1,lf.2 h.2]
  ·rw [sD,az h]
   by_cases h1:0 <=l.pos/\l.pos <=10000
   ·have h2:¬ (0 <=l.eM/\l.eM <=10000):=fun g=>h ⟨h1,g⟩
    simp [wW.2 h2]
   ·simp [wW.2 h1]
 have HD:=V hd;clear hd;go_enter func127,ntmps127;go_wp2_with fail;have hl:=pz (w.alloc (.cells #[.int .i64 l.pos, .int .i64 l.eM] 46)) l.pos l.eM 3;rw [aE]at hl;refine(vI _ _ _ hl).mono ?_;rintro x w2 ⟨rfl,hb⟩;rw [HD.out];have KT:Below w.heap.size w w2:=(((an w.heap.size w).alloc (ag _) _).alloc (by simp) _).trans (hb.mono (by simp;omega));clear hl hb;go_wp2_with fail;go_ret;exact⟨by simp,KT⟩
theorem Ab (v:Value) (l:List kR) (w:World) (hl:eg 2 kp w v l):
  Calls prog 240 #[v, .func (.func 127) #[] #[]] w (jU sD l w):=by
 have HI:=V hl;have hl':=hl;obtain⟨a,cap,rfl,h1,h2,_⟩:=hl';unfold maxLen at h2;clear hl;go_enter func240,ntmps240;go_wp2_with fail;refine eB (fun a' w'=>∃(k:Nat),a'=fr (.slice a l.length cap:: .func (.func 127) #[] #[]::gs a' 2 5 (.int .i64 l.length:: .int .i64 k::gs a' 9 10 []))/\pK sD l w w' k) (fun a' _=>(l.length - (intOf (a'.tmps.getD 8 undef)).toNat)) ?_ ?_
 ·exact⟨0,rfl,by omega,fun i hi=>by omega,an _ _⟩
 ·skip
  rintro R a' w1 ⟨k,Kw,hJ⟩ HR;dsimp only [fr,gs]at Kw;generalize slot a'=f at Kw;subst Kw;obtain⟨hk,hm,hb⟩:=hJ;have Lv:=V hm;clear hm;by_cases Ls:k < l.length;rotate_left
  ·obtain rfl:k=l.length:=by omega
   go_wp2_with fail;go_ret;exact⟨by rw [gO Lv.out];rfl,hb⟩
  obtain⟨e,he⟩:∃e,l[k]?=some e:=⟨_,aq Ls⟩;obtain⟨a',KR,hv,_,_,Kt⟩:=HI.out.below (hb.mono (ag _));injection hv with e1 e2 e3;subst e1 e3;obtain⟨b,off,rfl,KC,hc⟩:=Kt k e he;have c0:=hc 0 _ rfl;have c1:=hc 1 _ rfl;rw [aL]at c0;have HE:=V he;clear Kt e2 he hc;have KE:=zh e w1;cases hq:sD e
  all_goals
   rw [hq]at KE;have HQ:=V hq;clear hq;go_wp2_with fail;refine KE.mono ?_;rintro x w2 ⟨rfl,Kx⟩;replace hb:=dY hb Kx;clear KE Kx;go_wp2_with fail
  ·refine HR.out _ _ ⟨k+1,rfl,by omega,?_,hb⟩ ?_
   ·intro i hi d hd
    rcases bC i k with h | h
    ·exact Lv.out i h d hd
    ·obtain rfl:i=k:=by omega
     rw [HE.out]at hd;injection hd with hd;rw [<- hd];exact HQ.out
   ·simp [intOf]
    omega
  ·go_ret
   exact⟨by rw [ic HE.out HQ.out Lv.out];rfl,hb⟩
theorem zI (v:Value) (l:List kR) (w:World) (hl:eg 2 kp w v l):
  Calls prog 126 #[v, .func (.func 127) #[] #[]] w (ew (l.any sD) w):=by
 go_enter func126,ntmps126;go_wp2_with fail;refine(Ab v l _ hl).mono ?_;rintro x w2 ⟨rfl,hb⟩;go_wp2_with fail;go_ret;exact⟨by rw [<- iu];rfl,hb⟩
theorem eG.rY {w:World} {X:Nat} {t:TypeId} {x0 x1 x2 x3 x4:Value} (h:eG w X #[x0,x1,x2,x3,x4] t):
  w.cell? ⟨X,0,none⟩=some x0/\w.cell? ⟨X,1,none⟩=some x1/\w.cell? ⟨X,2,none⟩=some x2/\w.cell? ⟨X,3,none⟩=some x3/\w.cell? ⟨X,4,none⟩=some x4:=⟨h.cell 0,h.cell 1,h.cell 2,h.cell 3,h.cell 4⟩
theorem eG.three {w:World} {X:Nat} {t:TypeId} {x0 x1 x2:Value} (h:eG w X #[x0,x1,x2] t):
  w.cell? ⟨X,0,none⟩=some x0/\w.cell? ⟨X,1,none⟩=some x1/\w.cell? ⟨X,2,none⟩=some x2:=⟨h.cell 0,h.cell 1,h.cell 2⟩
def ng (f:eV):Bool:= !decide f.may
theorem Bw (l:List fa):l.any tb=false↔∀v∈l,v.may:=by
 rw [dB]
 constructor
 ·intro h v hv
  have:=h v hv;simpa [tb] using this
 ·intro h v hv
  simpa [tb] using h v hv
theorem G6 (l:List kR):l.any sD=false↔∀v∈l,v.may:=by
 rw [dB]
 constructor
 ·intro h v hv
  have:=h v hv;simpa [sD] using this
 ·intro h v hv
  simpa [sD] using h v hv
theorem GZ (l:List eV):l.any ng=false↔∀v∈l,v.may:=by
 rw [dB]
 constructor
 ·intro h v hv
  have:=h v hv;simpa [ng] using this
 ·intro h v hv
  simpa [ng] using h v hv
theorem vu (f:eV) (u x:Value) (w:World) (hu:eg 2 gb w u f.locals) (hx:eg 2 kp w x f.labels):
  Calls prog 125 #[.agg #[.int .i64 f.fn, .int .i64 f.pc,u, .int .i64 f.base,x]] w (ew (ng f) w):=by
 have HU:=V hu;have HV:=V hx;obtain⟨au,KD,rfl,_,hcu,_⟩:=hu;obtain⟨ax,LF,rfl,_,hcx,_⟩:=hx;unfold maxLen at hcu hcx;have hbad:∀b,(f.may ->b=false) ->(b=false ->f.may) ->ng f=b:=by
  intro b h1 h2;by_cases h:f.may
  ·rw [ng,aA h,h1 h];rfl
  ·cases b
   ·exact absurd (h2 rfl) h
   ·rw [ng,az h];rfl
 have HBAD:=V (show ¬ f.may ->ng f=true from fun h=>by rw [ng,az h];rfl);have HGOOD:=V (show f.may ->ng f=false from fun h=>by rw [ng,aA h];rfl);have HL:=V (G6 f.labels);have HLV:=V (Bw f.locals);clear hbad;go_enter func125,ntmps125;go_wp2_with fail;have LY:=eG.new w #[.int .i64 f.fn, .int .i64 f.pc, .slice au f.locals.length KD, .int .i64 f.base, .slice ax f.labels.length LF] 40;refine(zI _ f.labels _ (HV.out.below ((an _ _).alloc (ag _) _))).mono ?_;rintro y w1 ⟨rfl,KJ⟩;replace LY:=LY.below KJ (by simp);have hb:Below w.heap.size w w1:=((an w.heap.size w).alloc (ag _) _).trans (KJ.mono (by simp));clear KJ;obtain⟨x0,x1,x2,x3,x4⟩:=LY.rY;cases q1:f.labels.any sD with
 | true=>
  have Q1:=V q1;clear q1 LY;have HX:=V (show ng f=true from HBAD.out (fun h=>by have:=HL.out.2 h.1;rw [Q1.out]at this;cases this));go_wp2_with fail;go_ret;exact⟨by rw [HX.out];rfl,hb⟩
 | false=>
  have Q1:=V (HL.out.1 q1);clear q1;by_cases q2:40 < f.labels.length
  ·have f2:decide (40 < (f.labels.length:Int))=true:=aA (by omega)
   clear LY;have HX:=V (show ng f=true from HBAD.out (fun h=>by have:=h.2.1;omega));go_wp2_with fail;go_ret;exact⟨by rw [HX.out];rfl,hb⟩
  have f2:decide (40 < (f.labels.length:Int))=false:=az (by omega);by_cases q3:32 < f.locals.length
  ·have f3:decide (32 < (f.locals.length:Int))=true:=aA (by omega)
   clear LY;have HX:=V (show ng f=true from HBAD.out (fun h=>by have:=h.2.2.1;omega));go_wp2_with fail;go_ret;exact⟨by rw [HX.out];rfl,hb⟩
  have f3:decide (32 < (f.locals.length:Int))=false:=az (by omega);go_wp2_with fail;refine(td _ f.locals _ (HU.out.below (hb.mono (ag _)))).mono ?_;rintro y w2 ⟨rfl,Kx⟩;replace LY:=LY.below Kx LY.lt;replace hb:=dY hb Kx;clear Kx x0 x1 x2 x3 x4;obtain⟨x0,x1,x2,x3,x4⟩:=LY.rY;clear LY;cases q4:f.locals.any tb with
  | true=>
   have Q4:=V q4;clear q4;have HX:=V (show ng f=true from HBAD.out (fun h=>by have:=HLV.out.2 h.2.2.2.1;rw [Q4.out]at this;cases this));go_wp2_with fail;go_ret;exact⟨by rw [HX.out];rfl,hb⟩
  | false=>
   have Q4:=V (HLV.out.1 q4);clear q4;go_wp2_with fail;have hl:=CE w2 f.fn f.pc f.base 3;refine(vI _ _ _ hl).mono ?_;rintro y w3 ⟨rfl,K9⟩;replace hb:=dY hb (((an w2.heap.size w2).alloc (ag _) _).trans (K9.mono (by simp)));clear K9 x0 x1 x2 x3 x4 hl;cases q5:[f.fn,f.pc,f.base].any oV with
   | true=>
    have Q5:=V q5;clear q5;have HX:=V (show ng f=true from HBAD.out (fun h=>by have g:=Q5.out;simp [lf.2 h.2.2.2.2.1,lf.2 h.2.2.2.2.2.1,lf.2 h.2.2.2.2.2.2]at g));go_wp2_with fail;go_ret;exact⟨by rw [HX.out];rfl,hb⟩
   | false=>
    have Q5:=V q5;clear q5;have HX:=V (show ng f=false from HGOOD.out (by have g:=Q5.out;simp at g;exact⟨Q1.out,by omega,by omega,Q4.out,lf.1 g.1,lf.1 g.2.1,lf.1 g.2.2⟩));go_wp2_with fail;go_ret;exact⟨by rw [HX.out];rfl,hb⟩
theorem xA (v:Value) (l:List eV) (w:World) (hl:fY w v l):
  Calls prog 239 #[v, .func (.func 125) #[] #[]] w (jU ng l w):=by
 have HI:=V hl;obtain⟨a,cap,rfl,h1,h2⟩:=hl.slice;clear hl;go_enter func239,ntmps239;go_wp2_with fail;refine eB (fun a' w'=>∃(k:Nat),a'=fr (.slice a l.length cap:: .func (.func 125) #[] #[]::gs a' 2 5 (.int .i64 l.length:: .int .i64 k::gs a' 9 10 []))/\pK ng l w w' k) (fun a' _=>(l.length - (intOf (a'.tmps.getD 8 undef)).toNat)) ?_ ?_
 ·exact⟨0,rfl,by omega,fun i hi=>by omega,an _ _⟩
 ·skip
  rintro R a' w1 ⟨k,Kw,hJ⟩ HR;dsimp only [fr,gs]at Kw;generalize slot a'=f at Kw;subst Kw;obtain⟨hk,hm,hb⟩:=hJ;have Lv:=V hm;clear hm;by_cases Ls:k < l.length;rotate_left
  ·obtain rfl:k=l.length:=by omega
   go_wp2_with fail;go_ret;exact⟨by rw [gO Lv.out];rfl,hb⟩
  obtain⟨e,he⟩:∃e,l[k]?=some e:=⟨_,aq Ls⟩;obtain⟨b,off,u,x,rfl,KC,⟨c0,c1,c2,c3,c4⟩,hu,hx,-⟩:=(HI.out.below (hb.mono (ag _))).get he;have KE:=vu e u x w1 hu hx;obtain⟨au,KD,rfl,-,-,-⟩:=hu;obtain⟨ax,LF,rfl,-,-,-⟩:=hx;have HE:=V he;clear he;cases hq:ng e
  all_goals
   rw [hq]at KE;have HQ:=V hq;clear hq;go_wp2_with fail;refine KE.mono ?_;rintro x w2 ⟨rfl,Kx⟩;replace hb:=dY hb Kx;clear KE Kx c0 c1 c2 c3 c4;go_wp2_with fail
  ·refine HR.out _ _ ⟨k+1,rfl,by omega,?_,hb⟩ ?_
   ·intro i hi d hd
    rcases bC i k with h | h
    ·exact Lv.out i h d hd
    ·obtain rfl:i=k:=by omega
     rw [HE.out]at hd;injection hd with hd;rw [<- hd];exact HQ.out
   ·simp [intOf]
    omega
  ·go_ret
   exact⟨by rw [ic HE.out HQ.out Lv.out];rfl,hb⟩
theorem yq (v:Value) (l:List eV) (w:World) (hl:fY w v l):
  Calls prog 124 #[v, .func (.func 125) #[] #[]] w (ew (l.any ng) w):=by
 go_enter func124,ntmps124;go_wp2_with fail;refine(xA v l _ hl).mono ?_;rintro x w2 ⟨rfl,hb⟩;go_wp2_with fail;go_ret;exact⟨by rw [<- iu];rfl,hb⟩
theorem oB (uv uf:Value) (s:gL) (w:World) (hs:jA w uv uf s):
  Calls prog 80 #[.agg #[uv,uf, .int .i64 s.asks]] w (ew (decide s.may) w):=by
 have HS:=V hs;obtain⟨hv,hf,⟨⟨o1,o2⟩,-,-⟩⟩:=hs;obtain⟨av,KX,rfl,_,LC,_⟩:=hv;obtain⟨af,Ml,rfl,_,Pq⟩:=hf.slice;unfold maxLen at LC;have HL:=V (GZ s.eh);have HLV:=V (Bw s.dZ);clear hf;have hb:Below w.heap.size w (w.alloc (.cells #[.slice av s.dZ.length KX, .slice af s.eh.length Ml, .int .i64 s.asks] 37)):=(an _ _).alloc (ag _) _;go_enter func80,ntmps80;by_cases q1:1000 < s.dZ.length
 ·have f1:decide (1000 < (s.dZ.length:Int))=true:=aA (by omega)
  have HX:=V (show decide s.may=false from az (fun h=>by have:=h.1;omega));go_wp2_with fail;go_ret;exact⟨by rw [HX.out];rfl,hb⟩
 have f1:decide (1000 < (s.dZ.length:Int))=false:=az (by omega);by_cases q2:32 < s.eh.length
 ·have f2:decide (32 < (s.eh.length:Int))=true:=aA (by omega)
  have HX:=V (show decide s.may=false from az (fun h=>by have:=h.2.1;omega));go_wp2_with fail;go_ret;exact⟨by rw [HX.out];rfl,hb⟩
 have f2:decide (32 < (s.eh.length:Int))=false:=az (by omega);by_cases q3:s.asks < -1
 ·have f3:decide (s.asks < -1)=true:=aA q3
  have HX:=V (show decide s.may=false from az (fun h=>by have:=h.2.2.1;omega));go_wp2_with fail;go_ret;exact⟨by rw [HX.out];rfl,hb⟩
 have f3:decide (s.asks < -1)=false:=az q3;by_cases q4:10000 < s.asks
 ·have f4:decide (10000 < s.asks)=true:=aA q4
  have HX:=V (show decide s.may=false from az (fun h=>by have:=h.2.2.2.1;omega));go_wp2_with fail;go_ret;exact⟨by rw [HX.out];rfl,hb⟩
 have f4:decide (10000 < s.asks)=false:=az q4;go_wp2_with fail;have LY:=eG.new w #[.slice av s.dZ.length KX, .slice af s.eh.length Ml, .int .i64 s.asks] 37;refine(td _ s.dZ _ (HS.out.1.below (hb.mono (ag _)))).mono ?_;rintro y w1 ⟨rfl,KJ⟩;replace LY:=LY.below KJ (by simp);have hb:=hb.trans (KJ.mono hb.size);clear KJ;obtain⟨x0,x1,x2⟩:=LY.three;clear LY;cases q5:s.dZ.any tb with
 | true=>
  have Q5:=V q5;clear q5;have HX:=V (show decide s.may=false from az (fun h=>by have:=HLV.out.2 h.2.2.2.2.1;rw [Q5.out]at this;cases this));go_wp2_with fail;go_ret;exact⟨by rw [HX.out];rfl,hb⟩
 | false=>
  have Q5:=V (HLV.out.1 q5);clear q5;go_wp2_with fail;refine(yq _ s.eh _ (HS.out.2.1.below (hb.mono (ag _)))).mono ?_;rintro y w2 ⟨rfl,Kx⟩;replace hb:=dY hb Kx;clear Kx x0 x1 x2;cases q6:s.eh.any ng with
  | true=>
   have Q6:=V q6;clear q6;have HX:=V (show decide s.may=false from az (fun h=>by have:=HL.out.2 h.2.2.2.2.2;rw [Q6.out]at this;cases this));go_wp2_with fail;go_ret;exact⟨by rw [HX.out];rfl,hb⟩
  | false=>
   have Q6:=V (HL.out.1 q6);clear q6;have HX:=V (show decide s.may=true from aA ⟨by omega,by omega,by omega,by omega,Q5.out,Q6.out⟩);go_wp2_with fail;go_ret;exact⟨by rw [HX.out];rfl,hb⟩
end Go.Proofs.YthbjdhjppbcneaaGreatDoor
