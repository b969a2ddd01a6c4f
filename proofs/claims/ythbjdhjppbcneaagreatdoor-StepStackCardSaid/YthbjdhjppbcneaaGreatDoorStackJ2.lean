import Derived.Test.YthbjdhjppbcneaaGreatDoorStackJ1
namespace Go.Proofs.YthbjdhjppbcneaaGreatDoor
set_option maxRecDepth 100000
set_option maxHeartbeats 20000000
open Go.RowKit Tryz
open Lib renaming hid->V
set_option linter.all false
def oh:List UInt8 ->Nat
 | []=>0
 | x::l=>x.toNat %128+128*oh l
def ia (bits:Int) (l:List UInt8):Nat × Nat × Int:=
 if(eY bits l).2≠0 then(0,0,(eY bits l).2)
 else if eL (oh (l.take (eY bits l).1))=l.take (eY bits l).1/\oh (l.take (eY bits l).1) < 2^bits.toNat then(oh (l.take (eY bits l).1),(eY bits l).1,0)
 else(0,0,1)
theorem iY {bits:Int} {l:List UInt8} (h:(eY bits l).2=0):
  1 <=bits/\bits <=64/\(eY bits l).1=cont l+1/\cont l+1 <=l.length/\(cont l:Int)+1 <=(bits+6)/7:=by
 have:=wW l;unfold eY at*;by_cases h1:bits < 1\/64 < bits
 ·rw [aJ h1]at h;cases h
 rw [aC h1]at*;by_cases h2:(bits+6)/7 <=cont l
 ·rw [aJ h2]at h;cases h
 rw [aC h2]at*;by_cases h3:cont l=l.length
 ·rw [aJ h3]at h;cases h
 rw [aC h3];exact⟨by omega,by omega,rfl,by omega,by omega⟩
theorem wrap_u64 (n:Int):IntKind.u64.wrap n=n %18446744073709551616:=by simp [IntKind.wrap,IntKind.bits,IntKind.signed]
theorem Iu (y:Nat) (h:y < 256):bits .andNot .u8 (y:Int) 128=((y %128:Nat):Int):=by
 have h0:=u8_andNot_nat y 128 h (by omega);rw [show(255 - 128:Nat)=127 from rfl,nat_mask7]at h0;exact h0
theorem Ju (x y:Nat) (hy:y < 256):
  bits .or .u64 (IntKind.u64.wrap ((x:Int)*128)) (IntKind.u64.wrap (bits .andNot .u8 (y:Int) 128))=(((y %128+128*x) %18446744073709551616:Nat):Int):=by
 rw [Iu y hy,wrap_u64,wrap_u64];have h1:((x:Int)*128) %18446744073709551616=((x*128 %18446744073709551616:Nat):Int):=by omega
 have h2:(((y %128:Nat):Int)) %18446744073709551616=((y %128:Nat):Int):=by omega
 rw [h1,h2,u64_or_nat _ _ (by omega) (by omega),nat_join 7 _ _ (by omega) (by omega)]
 congr 1
 omega
theorem Cn {l:List UInt8} {k j:Nat} {y:UInt8} (hy:l[j]?=some y) (hj:j < k):oh ((l.take k).drop j)=y.toNat %128+128*oh ((l.take k).drop (j+1)):=by
 have h:(l.take k)[j]?=some y:=by rw [cG,aJ hj];exact hy
 obtain⟨Kq,he⟩:=aL.1 h;rw [cA Kq,oh,he]
theorem tT:∀(f n:Nat),n < 128^f ->oh (jB f n)=n
 | 0,n,h=>by
  simp at h;subst h;rfl
 | f+1,n,h=>by
  rw [jB];split
  ·rw [oh,oh,fJ (by omega)]
   omega
  ·rw [oh,fJ (by omega),tT f (n/128) (by rw [Nat.pow_succ]at h;omega)]
   omega
theorem rP {n:Nat} (h:n < 18446744073709551616):oh (eL n)=n:=tT 10 n (by omega)
theorem BK {bits:Int} {l:List UInt8} {k x:Nat} (he:(eY bits l).2=0) (hk:k=(eY bits l).1) (hx:x=oh (l.take k) %18446744073709551616)
  (hs:(l.take k==eL x)=true) (hr:if bits < 64 then(x:Int)/2^bits.toNat=0 else True):ia bits l=(x,k,0):=by
 obtain⟨h1,h2,_⟩:=iY he;have hs':l.take k=eL x:=by simpa using hs
 have MZ:x < 18446744073709551616:=by omega
 have hv:oh (l.take k)=x:=by rw [hs'];exact rP MZ
 have Kq:x < 2^bits.toNat:=by
  by_cases h:bits < 64
  ·rw [aJ h]at hr
   have h0:((x/2^bits.toNat:Nat):Int)=0:=by rw [<- hr];simp
   have h3:x/2^bits.toNat=0:=by omega
   rcases bq x (2^bits.toNat)with h4 | h4
   ·exact h4
   ·have:=Nat.div_pos h4 (Nat.two_pow_pos _)
    omega
  ·obtain rfl:bits=64:=by omega
   exact MZ
 rw [ia,aC (by rw [he];simp), <- hk,hv,aJ ⟨hs'.symm,Kq⟩]
theorem zi {bits:Int} {l:List UInt8} {k x:Nat} (he:(eY bits l).2=0) (hk:k=(eY bits l).1) (hx:x=oh (l.take k) %18446744073709551616)
  (hs:(l.take k==eL x)=false\/¬ (if bits < 64 then(x:Int)/2^bits.toNat=0 else True)):ia bits l=(0,0,1):=by
 obtain⟨h1,h2,_⟩:=iY he;rw [ia,aC (by rw [he];simp), <- hk,aC];rintro⟨h3,h4⟩;have h5:2^bits.toNat <=18446744073709551616:=by
  have:2^bits.toNat <=2^64:=cQ (by omega) (by omega);exact this
 have hv:x=oh (l.take k):=by omega
 rcases hs with h | h
 ·rw [hv,h3]at h
  simp at h
 ·apply h
  split
  ·have h6:x/2^bits.toNat=0:=Nat.div_eq_of_lt (by omega)
   have h7:((x/2^bits.toNat:Nat):Int)=0:=by omega
   rw [<- h7];simp
  ·trivial
def JY (bits:Int) (l:List UInt8) (w:World) (e:Ending) (w':World):Prop:=
 e= .returned (.tuple #[.int .u64 (ia bits l).1, .int .i64 (ia bits l).2.1, .int .i64 (ia bits l).2.2])/\Below w.heap.size w w'
def UJ (l:List UInt8) (k:Nat) (w w':World) (x i:Nat):Prop:=w'=w/\i <=k/\x=oh ((l.take k).drop i) %18446744073709551616
theorem uJ (b:Value) (l:List UInt8) (bits:Int) (w:World) (hb:eI w b l) (Kw: -9223372036854775808 <=bits) (Kl:bits <=9223372036854775807):
  Calls prog 208 #[b, .int .i64 bits] w (JY bits l w):=by
 by_cases he:(eY bits l).2=0
 ·obtain⟨k,hk⟩:∃k,k=(eY bits l).1:=⟨_,rfl⟩
  have HK:=V hk;have Pk:=V hb;obtain⟨K4,Md,LH,Kp,KS⟩:=iY he;have OR:1 <=k:=by omega
  have Lg:k <=l.length:=by omega
  have OS:k <=10:=by omega
  clear LH Kp KS;obtain⟨a,cap,rfl,hl,hm,hc⟩:=hb;unfold maxLen at hm;have HC:=V hc;have HE:=V he;clear hc hk he;go_enter func208,ntmps208;go_wp2;refine jY 0 (fun a' w'=>∃(x i:Nat) (u8 Qo PL Qp Qq Qr u16 Qs Qt Qu u20 u21 u22 u23 u24 u25 u26 u27 u28 u29 u30 u31 u32 u33 u34 u35 u36 u37 u38 u39 u40 u41 u42 u43 u44 u45 u46 u47 u48 u49 u50 u51 u52:Value),a'={tmps:=#[.slice a l.length cap, .int .i64 bits,undef,undef, .int .u64 0, .int .i64 0, .int .i64 0, .int .i64 k,u8, .int .u64 x, .int .i64 i,Qo,PL,Qp,Qq,Qr,u16,Qs,Qt,Qu,u20,u21,u22,u23,u24,u25,u26,u27,u28,u29,u30,u31,u32,u33,u34,u35,u36,u37,u38,u39,u40,u41,u42,u43,u44,u45,u46,u47,u48,u49,u50,u51,u52],defers:=[]}/\UJ l k w w' x i) (fun a' _=>(intOf (a'.tmps.getD 10 undef)).toNat) rfl ?_ ?_
  ·rintro a' w1 ⟨x,i,u8,Qo,PL,Qp,Qq,Qr,u16,Qs,Qt,Qu,u20,u21,u22,u23,u24,u25,u26,u27,u28,u29,u30,u31,u32,u33,u34,u35,u36,u37,u38,u39,u40,u41,u42,u43,u44,u45,u46,u47,u48,u49,u50,u51,u52,rfl,hJ⟩
   obtain⟨rfl,hik,hx⟩:=hJ;have HX:=V hx;clear hx;by_cases hi:i=0
   ·subst hi
    rw [List.drop_zero]at HX;have MZ:x < 18446744073709551616:=by have:=HX.out;omega
    have hbt:eI w1 (.slice a k cap) (l.take k):=Pk.out.take k Lg;have HBT:=V hbt;clear hbt;by_cases hs:(l.take k==eL x)=true
    ·by_cases h64:bits < 64
     ·have hd:decide (bits < 64)=true:=by simpa using h64
      by_cases hr:(x:Int)/2^bits.toNat=0
      ·have OT:(((x:Int)/2^bits.toNat) !=0)=false:=by simp [hr]
       have Np:(((x:Int)/2^bits.toNat)==0)=true:=by simp [hr]
       have HR:=V hr;clear hr;have HS:=V hs;clear hs;go_wp2_with fail;refine ed (fun _=>True) (up 0 4 ((4,false)::(5,false)::up 6 11 [])) (by kernel_rfl) (by kernel_rfl) trivial ?_;iterate 4 (first | (apply sk rfl rfl;simp only [pt]) | (apply dT rfl rfl rfl;·(intro w' _;go_wp2;exact⟨rfl,rfl,rfl⟩)))
       refine dZ rfl rfl ?_;go_wp2_with (go_at_call 235;refine(iT _ [] x MZ w1.heap.size _ (dU.nil _ _) (by simp) (by simp)).mono ?_;rintro e w2 ⟨v2,rfl,KB,Kp,Ku⟩);have Kl:=fM (Kp.below (ag _) (by intro i hi;cases hi));refine⟨trivial,?_⟩;refine dZ rfl rfl ?_;go_wp2_with (go_at_call 269;refine(lK _ _ (l.take k) (eL x) _ (HBT.out.below Kl) KB.fm).mono ?_;rintro e w3 ⟨rfl,rfl⟩;rw [HS.out]);refine⟨trivial,?_⟩;iterate 11 (first | (apply sk rfl rfl;simp only [pt]) | (apply dT rfl rfl rfl;·(intro w' _;go_wp2;exact⟨rfl,rfl,rfl⟩)))
       refine eH ?_;refine aD ?_;go_wp2;rw [iJ]
       go_ret3
       refine⟨?_,Kl⟩;rw [BK HE.out HK.out HX.out HS.out (by rw [aJ h64];exact HR.out)];rfl
      ·have OT:(((x:Int)/2^bits.toNat) !=0)=true:=by simp [hr]
       have Np:(((x:Int)/2^bits.toNat)==0)=false:=by simp [hr]
       have HR:=V hr;clear hr;have HS:=V hs;clear hs;go_wp2_with fail;refine ed (fun _=>True) (up 0 4 ((4,false)::(5,false)::up 6 11 [])) (by kernel_rfl) (by kernel_rfl) trivial ?_;iterate 4 (first | (apply sk rfl rfl;simp only [pt]) | (apply dT rfl rfl rfl;·(intro w' _;go_wp2;exact⟨rfl,rfl,rfl⟩)))
       refine dZ rfl rfl ?_;go_wp2_with (go_at_call 235;refine(iT _ [] x MZ w1.heap.size _ (dU.nil _ _) (by simp) (by simp)).mono ?_;rintro e w2 ⟨v2,rfl,KB,Kp,Ku⟩);have Kl:=fM (Kp.below (ag _) (by intro i hi;cases hi));refine⟨trivial,?_⟩;refine dZ rfl rfl ?_;go_wp2_with (go_at_call 269;refine(lK _ _ (l.take k) (eL x) _ (HBT.out.below Kl) KB.fm).mono ?_;rintro e w3 ⟨rfl,rfl⟩;rw [HS.out]);refine⟨trivial,?_⟩;iterate 11 (first | (apply sk rfl rfl;simp only [pt]) | (apply dT rfl rfl rfl;·(intro w' _;go_wp2;exact⟨rfl,rfl,rfl⟩)))
       refine eH ?_;refine aD ?_;go_wp2;rw [iJ]
       go_ret3
       refine⟨?_,Kl⟩;rw [zi HE.out HK.out HX.out (.inr (by rw [aJ h64];exact HR.out))];rfl
     ·have hd:decide (bits < 64)=false:=by simpa using h64
      have HS:=V hs;clear hs;go_wp2_with fail;refine ed (fun _=>True) (up 0 4 ((4,false)::(5,false)::up 6 11 [])) (by kernel_rfl) (by kernel_rfl) trivial ?_;iterate 4 (first | (apply sk rfl rfl;simp only [pt]) | (apply dT rfl rfl rfl;·(intro w' _;go_wp2;exact⟨rfl,rfl,rfl⟩)))
      refine dZ rfl rfl ?_;go_wp2_with (go_at_call 235;refine(iT _ [] x MZ w1.heap.size _ (dU.nil _ _) (by simp) (by simp)).mono ?_;rintro e w2 ⟨v2,rfl,KB,Kp,Ku⟩);have Kl:=fM (Kp.below (ag _) (by intro i hi;cases hi));refine⟨trivial,?_⟩;refine dZ rfl rfl ?_;go_wp2_with (go_at_call 269;refine(lK _ _ (l.take k) (eL x) _ (HBT.out.below Kl) KB.fm).mono ?_;rintro e w3 ⟨rfl,rfl⟩;rw [HS.out]);refine⟨trivial,?_⟩;iterate 11 (first | (apply sk rfl rfl;simp only [pt]) | (apply dT rfl rfl rfl;·(intro w' _;go_wp2;exact⟨rfl,rfl,rfl⟩)))
      refine eH ?_;refine aD ?_;go_wp2;rw [iJ]
      go_ret3
      refine⟨?_,Kl⟩;rw [BK HE.out HK.out HX.out HS.out (by rw [aC (by omega)];trivial)];rfl
    ·rw [Bool.not_eq_true]at hs
     have HS:=V hs;clear hs;go_wp2_with fail;refine ed (fun _=>True) (up 0 4 ((4,false)::(5,false)::up 6 11 [])) (by kernel_rfl) (by kernel_rfl) trivial ?_;iterate 4 (first | (apply sk rfl rfl;simp only [pt]) | (apply dT rfl rfl rfl;·(intro w' _;go_wp2;exact⟨rfl,rfl,rfl⟩)))
     refine dZ rfl rfl ?_;go_wp2_with (go_at_call 235;refine(iT _ [] x MZ w1.heap.size _ (dU.nil _ _) (by simp) (by simp)).mono ?_;rintro e w2 ⟨v2,rfl,KB,Kp,Ku⟩);have Kl:=fM (Kp.below (ag _) (by intro i hi;cases hi));refine⟨trivial,?_⟩;refine dZ rfl rfl ?_;go_wp2_with (go_at_call 269;refine(lK _ _ (l.take k) (eL x) _ (HBT.out.below Kl) KB.fm).mono ?_;rintro e w3 ⟨rfl,rfl⟩;rw [HS.out]);refine⟨trivial,?_⟩;iterate 11 (first | (apply sk rfl rfl;simp only [pt]) | (apply dT rfl rfl rfl;·(intro w' _;go_wp2;exact⟨rfl,rfl,rfl⟩)))
     refine eH ?_;refine aD ?_;go_wp2;rw [iJ]
     go_ret3
     refine⟨?_,Kl⟩;rw [zi HE.out HK.out HX.out (.inl HS.out)];rfl
   ·obtain⟨j,rfl⟩:∃j,i=j+1:=⟨i - 1,by omega⟩
    obtain⟨y,hy⟩:∃y,l[j]?=some y:=⟨_,aq (show j < l.length by omega)⟩;obtain⟨b,off,rfl,hc⟩:=HC.out j y hy;have hy8:=y.toNat_lt;have HY:=V hy;clear hy;have Kq:j < l.length:=by omega
    go_wp2_with fail
    go_step3
    simp only [Exit.then];rw [Ju x y.toNat hy8];refine lh ⟨_,j,_,_,_,_,_,_,_,_,_,_,_,_,_,_,_,_,_,_,_,_,_,_,_,_,_,_,_,_,_,_,_,_,_,_,_,_,_,_,_,_,_,_,_,rfl,rfl,by omega,?_⟩ ?_
    ·rw [Cn HY.out (by omega),HX.out]
     omega
    ·simp [intOf]
  ·intro H
   have Hh:=V H;clear H;go_wp2_with (go_at_call 268;refine(mP _ l _ _ Pk.out (by omega) (by omega)).mono ?_;rintro e w' ⟨rfl,rfl⟩;rw [HE.out, <- HK.out])
   go_step3
   go_step
   go_step
   refine Hh.out _ _ ⟨0,k,_,_,_,_,_,_,_,_,_,_,_,_,_,_,_,_,_,_,_,_,_,_,_,_,_,_,_,_,_,_,_,_,_,_,_,_,_,_,_,_,_,_,_,rfl,rfl,ag _,?_⟩;rw [List.drop_eq_nil_of_le (by rw [aR];omega)];rfl
 ·have HE:=V he
  have Pk:=V hb;have HB:=V (dQ he);clear he hb;go_enter func208,ntmps208;go_wp2
  go_step3
  go_wp2_with (go_at_call 268;refine(mP _ l _ _ Pk.out (by omega) (by omega)).mono ?_;rintro e w' ⟨rfl,rfl⟩;have hb:=HB.out);rw [Exit.noGoto_ret]
  go_ret3
  refine⟨?_,an _ _⟩;rw [ia,aJ HE.out];rfl
def iA:Nat ->Int ->List UInt8
 | 0,_=>[]
 | f+1,n=>if -64 <=n/\n < 64 then [b8 (n %128).toNat]else b8 ((n %128).toNat+128)::iA f (n/128)
def ib (n:Int):List UInt8:=iA 10 n
def I5 (xs:List UInt8) (u:Int) (B:Nat) (b:Value) (w w':World) (v:Value) (n:Int):Prop:=
 ∃(ys:List UInt8) (k f:Nat),dU w' B v ys/\dS (ey b) w w'/\eC w b v/\ys.length <=xs.length+k/\k+f=9/\ -((128:Int)^f) <=n/\n < 128^f/\ys++iA (f+1) n=xs++iA 10 u
def Ge (xs:List UInt8) (u:Int) (B:Nat) (b:Value) (w:World) (e:Ending) (w':World):Prop:=
 ∃v,e= .returned v/\dU w' B v (xs++ib u)/\dS (ey b) w w'/\eC w b v
theorem s8 (n:Int):bits .andNot .u8 (n %256) 128=n %128:=by
 obtain⟨m,hm⟩:∃m:Nat,(m:Int)=n %256:=⟨(n %256).toNat,by omega⟩;rw [<- hm,Iu m (by omega)];omega
theorem IY:∀x:Fin 128,x.val&&&64=if x.val < 64 then 0 else 64:=by decide+kernel
theorem A1 (n:Int):bits .and .u8 (n %128) 64=if n %128 < 64 then 0 else 64:=by
 obtain⟨m,hm⟩:∃m:Nat,(m:Int)=n %128:=⟨(n %128).toNat,by omega⟩;have h0:=u8_and_nat m 64 (by omega) (by omega);rw [IY ⟨m,by omega⟩]at h0;rw [<- hm];refine h0.trans ?_;by_cases h:m < 64
 ·rw [aJ h,aJ (by omega)];rfl
 ·rw [aC h,aC (by omega)];rfl
theorem Hx (n:Int):bits .andNot .u8 (n %256) 128=((b8 (n %128).toNat).toNat:Int):=by
 rw [s8,fJ (by omega)];omega
theorem Ek (n:Int):bits .or .u8 (bits .andNot .u8 (n %256) 128) 128=((b8 ((n %128).toNat+128)).toNat:Int):=by
 rw [s8,fJ (by omega)];obtain⟨m,hm⟩:∃m:Nat,(m:Int)=n %128:=⟨(n %128).toNat,by omega⟩;rw [<- hm,ua m (by omega)];omega
theorem mE (b:Value) (xs:List UInt8) (u:Int) (h0: -9223372036854775808 <=u) (h1:u <=9223372036854775807) (B:Nat) (w:World) (Ki:dU w B b xs) (hn:xs.length <=1000000000) (hB:B <=w.heap.size):
  Calls prog 236 #[b, .int .i64 u] w (Ge xs u B b w):=by
 go_enter func236,ntmps236;go_wp2;refine jY 0 (fun a' w'=>∃(v:Value) (n:Int) (u5 u6 u7 u8 u9 u10 Qo PL Qp Qq Qr u16 Qs Qt Qu u20 u21 u22 u23 u24 u25 u26 u27 u28 u29 u30 u31 u32 u33 u34 u35:Value),a'={tmps:=#[v, .int .i64 n,undef,undef, .slice none 0 0,u5,u6,u7,u8,u9,u10,Qo,PL,Qp,Qq,Qr,u16,Qs,Qt,Qu,u20,u21,u22,u23,u24,u25,u26,u27,u28,u29,u30,u31,u32,u33,u34,u35],defers:=[]}/\I5 xs u B b w w' v n) (fun a' _=>(intOf (a'.tmps.getD 1 undef)).natAbs) rfl ?_ ?_
 ·rintro a' w1 ⟨v,n,u5,u6,u7,u8,u9,u10,Qo,PL,Qp,Qq,Qr,u16,Qs,Qt,Qu,u20,u21,u22,u23,u24,u25,u26,u27,u28,u29,u30,u31,u32,u33,u34,u35,rfl,hJ⟩
  obtain⟨ys,k,f,NT,hk,hs,hlen,hkf,hnf1,hnf2,heq⟩:=hJ;have HE:=V heq;have HK:=V hkf;have hk9:k <=9:=by omega
  clear heq hkf Ki;have Lf:=hk.size;have hc:=A1 n;rw [<- s8]at hc;have HC:=V hc;clear hc;by_cases n0:n/128=0
  ·by_cases n1:n %128 < 64
   ·have e1:=eF n0
    have e2:(bits .and .u8 (bits .andNot .u8 (n %256) 128) 64==0)=true:=by rw [HC.out,s8,aJ n1];rfl
    have Lp: -64 <=n/\n < 64:=by omega
    clear n0;have HS:=V Lp;clear Lp;go_wp2_with (first | (at_builtin;refine eV w1 rfl _ _ rfl rfl B v ys rfl NT (b8 (n %128).toNat) _ (Hx n) rfl ?_ ?_ ?_))
    ·omega
    ·omega
    ·intro v' w2 KB Kp Ku
     go_wp2;rw [iJ];go_ret;refine⟨v',rfl,?_,hk.trans Kp ?_,hs.trans Ku Lf⟩
     ·have h:=HE.out
      rw [iA,aJ HS.out]at h;rw [ib, <- h];exact KB
     ·exact fun i hi=>hs i hi
   ·have e1:=eF n0
    have e2:(bits .and .u8 (bits .andNot .u8 (n %256) 128) 64==0)=false:=by rw [HC.out,s8,aC n1];rfl
    have e3:=dQ (a:=n/128) (b:= -1) (by omega);have Lp:¬ (-64 <=n/\n < 64):=by omega
    clear n0;have HS:=V Lp;clear Lp;go_wp2_with (first | (at_builtin;refine eV w1 rfl _ _ rfl rfl B v ys rfl NT (b8 ((n %128).toNat+128)) _ (Ek n) rfl ?_ ?_ ?_))
    ·omega
    ·omega
    ·intro v' w2 KB Kp Ku
     go_wp2
     go_step3
     have Lp:=HS.out;have hf:f≠0:=by
      rintro rfl;omega
     obtain⟨f',rfl⟩:∃f',f=f'+1:=⟨f - 1,by omega⟩;refine lh ⟨v',n/128,_,_,_,_,_,_,_,_,_,_,_,_,_,_,_,_,_,_,_,_,_,_,_,_,_,_,_,_,_,_,_,rfl,ys++[b8 ((n %128).toNat+128)],k+1,f',KB,hk.trans Kp (fun i hi=>hs i hi),hs.trans Ku Lf,?_,?_,?_,?_,?_⟩ ?_
     ·simp
      omega
     ·have:=HK.out
      omega
     ·rw [bV]at hnf1
      omega
     ·rw [bV]at hnf2
      omega
     ·have h:=HE.out
      rw [iA,aC Lp]at h;rw [<- h];simp
     ·simp [intOf]
      omega
  by_cases n0:n/128= -1
  ·by_cases n1:n %128 < 64
   ·have e1:=eF n0
    have e2:(bits .and .u8 (bits .andNot .u8 (n %256) 128) 64 !=0)=false:=by rw [HC.out,s8,aJ n1];rfl
    have e3:=dQ (a:=n/128) (b:=0) (by omega);have Lp:¬ (-64 <=n/\n < 64):=by omega
    clear n0;have HS:=V Lp;clear Lp;go_wp2_with (first | (at_builtin;refine eV w1 rfl _ _ rfl rfl B v ys rfl NT (b8 ((n %128).toNat+128)) _ (Ek n) rfl ?_ ?_ ?_))
    ·omega
    ·omega
    ·intro v' w2 KB Kp Ku
     go_wp2
     go_step3
     have Lp:=HS.out;have hf:f≠0:=by
      rintro rfl;omega
     obtain⟨f',rfl⟩:∃f',f=f'+1:=⟨f - 1,by omega⟩;refine lh ⟨v',n/128,_,_,_,_,_,_,_,_,_,_,_,_,_,_,_,_,_,_,_,_,_,_,_,_,_,_,_,_,_,_,_,rfl,ys++[b8 ((n %128).toNat+128)],k+1,f',KB,hk.trans Kp (fun i hi=>hs i hi),hs.trans Ku Lf,?_,?_,?_,?_,?_⟩ ?_
     ·simp
      omega
     ·have:=HK.out
      omega
     ·rw [bV]at hnf1
      omega
     ·rw [bV]at hnf2
      omega
     ·have h:=HE.out
      rw [iA,aC Lp]at h;rw [<- h];simp
     ·simp [intOf]
      omega
   ·have e1:=eF n0
    have e2:(bits .and .u8 (bits .andNot .u8 (n %256) 128) 64 !=0)=true:=by rw [HC.out,s8,aC n1];rfl
    have e3:=dQ (a:=n/128) (b:=0) (by omega);have Lp: -64 <=n/\n < 64:=by omega
    clear n0;have HS:=V Lp;clear Lp;go_wp2_with (first | (at_builtin;refine eV w1 rfl _ _ rfl rfl B v ys rfl NT (b8 (n %128).toNat) _ (Hx n) rfl ?_ ?_ ?_))
    ·omega
    ·omega
    ·intro v' w2 KB Kp Ku
     go_wp2;rw [iJ];go_ret;refine⟨v',rfl,?_,hk.trans Kp ?_,hs.trans Ku Lf⟩
     ·have h:=HE.out
      rw [iA,aJ HS.out]at h;rw [ib, <- h];exact KB
     ·exact fun i hi=>hs i hi
  ·have e1:=dQ (a:=n/128) (b:=0) (by omega)
   have e2:=dQ (a:=n/128) (b:= -1) (by omega);have Lp:¬ (-64 <=n/\n < 64):=by omega
   have HS:=V Lp;clear Lp;go_wp2_with (first | (at_builtin;refine eV w1 rfl _ _ rfl rfl B v ys rfl NT (b8 ((n %128).toNat+128)) _ (Ek n) rfl ?_ ?_ ?_))
   ·omega
   ·omega
   ·intro v' w2 KB Kp Ku
    go_wp2
    go_step3
    have Lp:=HS.out;have hf:f≠0:=by
     rintro rfl;omega
    obtain⟨f',rfl⟩:∃f',f=f'+1:=⟨f - 1,by omega⟩;refine lh ⟨v',n/128,_,_,_,_,_,_,_,_,_,_,_,_,_,_,_,_,_,_,_,_,_,_,_,_,_,_,_,_,_,_,_,rfl,ys++[b8 ((n %128).toNat+128)],k+1,f',KB,hk.trans Kp (fun i hi=>hs i hi),hs.trans Ku Lf,?_,?_,?_,?_,?_⟩ ?_
    ·simp
     omega
    ·have:=HK.out
     omega
    ·rw [bV]at hnf1
     omega
    ·rw [bV]at hnf2
     omega
    ·have h:=HE.out
     rw [iA,aC Lp]at h;rw [<- h];simp
    ·simp [intOf]
     omega
 ·intro H
  apply wp_seq_k;intro K hK;apply wp_label;apply hK;exact H _ _ ⟨b,u,_,_,_,_,_,_,_,_,_,_,_,_,_,_,_,_,_,_,_,_,_,_,_,_,_,_,_,_,_,_,_,rfl,xs,0,9,Ki,dS.refl _ _,eC.refl _ _,by omega,rfl,by omega,by omega,rfl⟩
section
def eE (w:World) (X:Nat) (xs:Array Value) (t:TypeId):Prop:=w.heap[X]?=some (.cells xs t)
section
variable {w w':World} {X:Nat} {xs:Array Value} {t:TypeId}
theorem eE.lt (h:eE w X xs t):X < w.heap.size:=(cq.1 h).1
theorem eE.new (w:World) (xs:Array Value) (t:TypeId):eE (w.alloc (.cells xs t)) w.heap.size xs t:=dq w _
theorem eE.keeps {S:Nat ->Prop} (h:eE w X xs t) (hk:dS S w w') (hs:¬ S X):eE w' X xs t:=(hk.block X h.lt hs).trans h
theorem eE.below {B:Nat} (h:eE w X xs t) (hb:Below B w w') (hX:X < B):eE w' X xs t:=(hb.block X hX).trans h
theorem eE.alloc (h:eE w X xs t) (o:Obj):eE (w.alloc o) X xs t:=h.below ((an w.heap.size w).alloc (ag _) o) h.lt
theorem eE.drew (h:eE w X xs t):eE w.drew X xs t:=h
theorem eE.cell (h:eE w X xs t) (i:Nat):w.cell? ⟨X,i,none⟩=xs[i]?:=by
 have:=cell_of_row w X i xs _ _ h;simpa using this
theorem eE.free (h:eE w X xs t) (i:Nat):w.frozen? ⟨X,i,none⟩=false:=cZ w X i xs _ h
theorem eE.set (h:eE w X xs t) (i:Nat) (v:Value):eE (w.setCell ⟨X,i,none⟩ v) X (xs.setIfInBounds i v) t:=heap_setCell_same w X i xs _ _ h
theorem eE.other (h:eE w X xs t) (a:Addr) (v:Value) (ha:X≠a.block):eE (w.setCell a v) X xs t:=(cN w a v X ha).trans h
theorem eE.four {x0 x1 x2 x3:Value} (h:eE w X #[x0,x1,x2,x3] t):
  (w.cell? ⟨X,0,none⟩=some x0/\w.cell? ⟨X,1,none⟩=some x1/\w.cell? ⟨X,2,none⟩=some x2/\w.cell? ⟨X,3,none⟩=some x3)/\
  w.frozen? ⟨X,0,none⟩=false/\w.frozen? ⟨X,1,none⟩=false/\w.frozen? ⟨X,2,none⟩=false/\w.frozen? ⟨X,3,none⟩=false:=
 ⟨⟨h.cell 0,h.cell 1,h.cell 2,h.cell 3⟩,h.free 0,h.free 1,h.free 2,h.free 3⟩
theorem eE.rS {x0 x1 x2 x3:Value} (h:eE w X #[x0,x1,x2,x3] t) (y0 y1 y2 y3:Value):
  eE ((((w.setCell ⟨X,0,none⟩ y0).setCell ⟨X,1,none⟩ y1).setCell ⟨X,2,none⟩ y2).setCell ⟨X,3,none⟩ y3) X #[y0,y1,y2,y3] t:=by
 have:=(((h.set 0 y0).set 1 y1).set 2 y2).set 3 y3;simpa using this
theorem fa {P:Program} {fn:Func} {t0 u0:Tmp} {ty:TypeId} (h:fn.results=#[.cell t0 ty, .tmp u0]) (tmps:Array Value) (w:World) {a:Addr} {v:Value} (ht:tmps.getD t0 undef= .pointer (some a))
  (hl:(loadVar ty a).run P w= .ok v w):(results fn tmps).run P w= .ok (.tuple #[v,tmps.getD u0 undef]) w:=by
 have ht':tmps[t0]?.getD undef= .pointer (some a):=by simpa using ht
 simp [results,h,ht',asAddr,hl]
end
end
def ki (w:World) (e:Ending) (w':World):Prop:=e= .returned (.bool true)/\Below w.heap.size w w'
theorem dW {a b c:World} (h:Below a.heap.size a b) (k:Below b.heap.size b c):Below a.heap.size a c:=h.trans (k.mono h.size)
theorem ju {a b:World} {v:Value} (h:dS (ey v) a b) (hv:v.ownBlock=none):Below a.heap.size a b:=h.below (ag _) (fun i hi=>by rw [ey,hv]at hi;cases hi)
theorem eD (n:Nat):1 <=(eL n).length/\(eL n).length <=10:=by
 have h:∀f n,(jB f n).length <=f:=by
  intro f
  induction f with
  | zero=>intro n;simp [jB]
  | succ f ih=>
   intro n;rw [jB];split
   ·simp
   ·have:=ih (n/128)
    simp;omega
 refine⟨?_,h 10 n⟩;rw [eL,jB];split <;>simp
theorem dU.open {w:World} {B:Nat} {v:Value} {l:List UInt8} (h:dU w B v l) (hl:l≠[]):
  ∃g cap,v= .slice (some ⟨g,0,none⟩) l.length cap/\B <=g/\g < w.heap.size/\l.length <=cap/\cap <=maxLen/\(∀i x,l[i]?=some x ->w.cell? ⟨g,i,none⟩=some (bv x))/\∀i,w.frozen? ⟨g,i,none⟩=false:=by
 have hi:=h.fm;obtain⟨h1,h2 | ⟨g,cap,cur,hv,hb,hg,hn,hm,hs,ht⟩⟩:=h
 ·exact absurd (aH h2.2) hl
 ·refine⟨g,cap,hv,hb,(cq.1 hg).1,hn,hm,fun i x hx=>?_,fun i=>cZ w g i cur _ hg⟩
  obtain⟨a,c,O5,_,_,hc⟩:=hi;obtain⟨b,off,ha,K6⟩:=hc i x hx;rw [hv]at O5;injection O5 with e1 e2 e3;subst e1;injection ha with ha;injection ha with e1 e2;subst e1 e2
  rwa [bX]at K6
def sliceFrom (a:Option Addr) (len cap k:Nat):Value:= .slice (if cap=k then a else a.map (·.add (k*1))) (len - k) (cap - k)
theorem pa (a:Option Addr) (len cap k:Nat) (hk:k <=len) (w:World):
  (Instr.slice 97 (.slice a len cap) (some (.int .i64 k)) none none).run prog w= .ok (sliceFrom a len cap k) w:=by
 have hu:prog.underlying 97=some (.slice 5):=by kernel_rfl
 obtain⟨i0,hi,MY,LG,Mm⟩:=cd oC;simp [Instr.slice,bo hu,Instr.sliceBounds,Instr.sliceBound,sizeOf,typeInfo,hi,LG,asIntOf,hk,sliceFrom]
theorem eI.drop {w:World} {a:Option Addr} {n cap:Nat} {l:List UInt8} (h:eI w (.slice a n cap) l) (k:Nat) (hk:k <=l.length):eI w (sliceFrom a n cap k) (l.drop k):=by
 obtain⟨a',KE,hv,h1,h2,h3⟩:=h;injection hv with e1 e2 e3;subst e1 e2 e3;refine⟨_,cap - k,by rw [sliceFrom,bm],by rw [bm];omega,by simp only [maxLen]at*;omega,fun i x hx=>?_⟩;rw [List.getElem?_drop]at hx;obtain⟨b,off,rfl,hc⟩:=h3 _ x hx;have Kq:=(aL.1 hx).1;rw [aC (by omega)];refine⟨b,off+k,?_,?_⟩
 ·simp only [bF,bj]
  unfold Addr.add;split <;>simp_all
 ·rw [Nat.add_assoc]
  exact hc
theorem ou (p:List UInt8) (z:UInt8) (rest:List UInt8) (hp:∀y∈p,128 <=y.toNat) (hz:z.toNat < 128):cont (p++z::rest)=p.length:=by
 induction p with
 | nil=>simp [cont];omega
 | cons x p ih=>
  rw [bL,cont,aJ (hp x (by simp)),ih (fun y hy=>hp y (by simp [hy]))];rfl
theorem qW:∀(f n:Nat),n < 128^(f+1) ->∃p z,jB (f+1) n=p++[z]/\(∀y∈p,128 <=y.toNat)/\z.toNat < 128/\p.length <=f:=by
 intro f
 induction f with
 | zero=>
  intro n h;exact⟨[],b8 n,by rw [jB,aJ (by omega)];rfl,by simp,by rw [fJ (by omega)];omega,ag _⟩
 | succ f ih=>
  intro n h;rw [jB];split
  ·exact⟨[],b8 n,rfl,by simp,by rw [fJ (by omega)];omega,by simp⟩
  ·obtain⟨p,z,h1,h2,h3,h4⟩:=ih (n/128) (by rw [Nat.pow_succ]at h;omega)
   refine⟨b8 (n %128+128)::p,z,by rw [h1];rfl,fun y hy=>?_,h3,by simpa using h4⟩;rcases bJ.1 hy with rfl | hy
   ·rw [fJ (by omega)]
    omega
   ·exact h2 y hy
theorem oR:∀(f:Nat) (n:Int),-((128:Int)^(f+1)) <=2*n ->2*n < 128^(f+1) ->∃p z,iA (f+1) n=p++[z]/\(∀y∈p,128 <=y.toNat)/\z.toNat < 128/\p.length <=f:=by
 intro f
 induction f with
 | zero=>
  intro n h h';exact⟨[],b8 (n %128).toNat,by rw [iA,aJ (by omega)];rfl,by simp,by rw [fJ (by omega)];omega,ag _⟩
 | succ f ih=>
  intro n h h';rw [iA];split
  ·exact⟨[],b8 (n %128).toNat,rfl,by simp,by rw [fJ (by omega)];omega,by simp⟩
  ·rw [bV,bV]at h h'
   obtain⟨p,z,h1,h2,h3,h4⟩:=ih (n/128) (by rw [bV];omega) (by rw [bV];omega);refine⟨b8 ((n %128).toNat+128)::p,z,by rw [h1];rfl,fun y hy=>?_,h3,by simpa using h4⟩;rcases bJ.1 hy with rfl | hy
   ·rw [fJ (by omega)]
    omega
   ·exact h2 y hy
theorem C8 {L p q:List UInt8} (hL:L=p++q) (a:Option Addr) (cap:Nat):∃a2 Kn,
  (∀wx,(Instr.slice 97 (.slice a L.length cap) (some (.int .i64 p.length)) none none).run prog wx= .ok (.slice a2 q.length Kn) wx)/\
  ∀wy,eI wy (.slice a L.length cap) L ->eI wy (.slice a2 q.length Kn) q:=by
 have hle:p.length <=L.length:=by rw [hL];simp
 have hd:L.drop p.length=q:=by rw [hL];exact da
 have hl:L.length - p.length=q.length:=by rw [hL];simp
 refine⟨if cap=p.length then a else a.map (·.add (p.length*1)),cap - p.length,fun wx=>?_,fun wy h=>?_⟩
 ·rw [pa a L.length cap p.length hle wx,sliceFrom,hl]
 ·have:=h.drop p.length hle
  rw [hd,sliceFrom,hl]at this;exact this
theorem rz:∀(f n:Nat),n < 128^f ->(jB f n).length <=1\/128^((jB f n).length - 1) <=n
 | 0,n,_=>by simp [jB]
 | f+1,n,h=>by
  rw [jB];split
  ·left;simp
  ·rename_i hge
   right
   rcases rz f (n/128) (by rw [Nat.pow_succ]at h;omega)with h1 | h1
   ·have:(b8 (n %128+128)::jB f (n/128)).length - 1 <=1:=by simp;exact h1
    have h2:128^((b8 (n %128+128)::jB f (n/128)).length - 1) <=128^1:=cQ (by omega) this;omega
   ·rw [aI,de]
    rcases aY (jB f (n/128)).length with h0 | h0
    ·rw [h0]
     omega
    ·obtain⟨m,hm⟩:∃m,(jB f (n/128)).length=m+1:=⟨_,(Nat.succ_pred_eq_of_pos h0).symm⟩
     rw [hm]at h1⊢;rw [de]at h1;rw [Nat.pow_succ];have:=dk 128 h1;omega
theorem C4:∀(f:Nat) (n:Int),-((128:Int)^(f+1)) <=2*n ->2*n < 128^(f+1) ->(iA (f+1) n).length=1\/((iA (f+1) n).length≠0/\¬ (-(64*128^((iA (f+1) n).length - 2)) <=n/\n < 64*128^((iA (f+1) n).length - 2))):=by
 intro f
 induction f with
 | zero=>
  intro n h h'
  left
  rw [iA,aJ (by omega)];rfl
 | succ f ih=>
  intro n h h';rw [iA];split
  ·left;rfl
  ·rename_i hs
   right
   rw [bV,bV]at h h';obtain h1 | h1:=ih (n/128) (by rw [bV];omega) (by rw [bV];omega)
   ·rw [aI,h1]
    simp;omega
   ·rw [aI]
    obtain⟨h0,h1⟩:=h1;obtain⟨m,hm⟩:∃m,(iA (f+1) (n/128)).length=m+1:=⟨_,(Nat.succ_pred_eq_of_pos (Nat.pos_of_ne_zero h0)).symm⟩;rw [hm]at h1⊢;refine⟨by omega,?_⟩;rcases aY m with hm0 | hm0
    ·subst hm0
     simp;omega
    ·obtain⟨m',rfl⟩:∃m',m=m'+1:=⟨m - 1,by omega⟩
     rw [show m'+1+1 - 2=m' from by omega]at h1;rw [show m'+1+1+1 - 2=m'+1 from by omega,bV];omega
theorem Ca (l:List UInt8):(bs l).size=l.length:=by simp [bs,ByteArray.size]
theorem fK {P:Program} (w:World) {ops:Array Oper} {rest:List Oper} {o:Oper} {a:Act} {Q:Exit ->Act ->World ->Prop} (Ob:o.guard=none) (s x:Operand)
  (hP:P=prog) (ho:o.op= .call {callee:= .builtin .append,args:=#[s,x],argTypes:=#[97,97]})
  (B:Nat) (v:Value) (l:List UInt8) (hs:a.eval s=v) (Ki:dU w B v l)
  (b:Value) (m:List UInt8) (hx:a.eval x=b) (hm:eI w b m)
  (Ou:l.length+m.length <=140737488355327) (KO:B <=w.heap.size)
  (h:∀v' w',dU w' B v' (l++m) ->dS (ey v) w w' ->eC w v v' ->wpList P ops Q rest (a.put o.dst v') w'):wpList P ops Q (o::rest) a w:=by
 subst hP;obtain⟨i0,hi,MY,LG,Mm⟩:=cd oC;obtain⟨ad,cap,rfl,Me,La,hc3⟩:=hm;cases m with
 | nil=>
  have key:∃v' w',(Builtin.append_ #[97,97] o.type #[v, .slice ad 0 cap]).run prog w= .ok v' w'/\dU w' B v' (l++[])/\dS (ey v) w w'/\eC w v v':=by
   cases ad with
   | some ad=>
    obtain⟨v',w',h1,h2,h3,h4⟩:=sE (P:=prog) w B 97 o.type 5 i0 (.int .u8 0) 1 1 (by kernel_rfl) hi MY LG Mm rfl (by decide) v l.length (l.map bv) Ki ad 0 cap [] rfl (by simp) (by simp) (by simp only [maxLen];omega) (by omega) KO;exact⟨v',w',h1,by simpa [dU] using h2,h3,h4⟩
   | none=>
    have ht:prog.underlying 97=some (.slice 5):=by kernel_rfl
    rcases Ki.2 with⟨rfl,h0⟩ | ⟨g,KE,cur,rfl,hb,hg,hn,hm,hs,NV⟩
    ·refine⟨.slice none 0 0,w,?_,by simpa using Ki,dS.refl _ _,eC.refl _ _⟩
     simp [Builtin.append_,bo ht,sizeOf,typeInfo,hi,Builtin.lenOf,Builtin.firstCells]
    ·refine⟨.slice (some ⟨g,0,none⟩) l.length KE,w,?_,by simpa using Ki,dS.refl _ _,eC.refl _ _⟩
     simp [Builtin.append_,bo ht,sizeOf,typeInfo,hi,Builtin.lenOf,Builtin.firstCells,hn];simp [storeCells]
  obtain⟨v',w',hr,h2,h3,h4⟩:=key;refine dK Ob fun _ hK=>?_;unfold Oper.wp execOp;simp only [ho,resolve,invoke,builtin,cM,cm,cC,dr,bC,cR,hs,hx,hr,aM];exact hK _ _ (h v' w' h2 h3 h4)
 | cons y m=>
  obtain⟨b,off,rfl,_⟩:=hc3 0 y rfl;refine qh (P:=prog) w Ob s x 97 ho B 5 i0 (.int .u8 0) 1 1 (by kernel_rfl) hi MY LG Mm rfl (by decide) v l.length (l.map bv) hs Ki ⟨b,off,none⟩ (y::m).length cap ((y::m).map bv) hx (by simp) ?_ (z6 _) (by simp only [maxLen];omega) (by omega) KO ?_
  ·intro j u hu
   rw [cn]at hu;cases hj:(y::m)[j]? with
   | none=>rw [hj]at hu;cases hu
   | some z=>
    rw [hj]at hu;simp at hu;subst hu;obtain⟨b',off',he,hc⟩:=hc3 j z hj;injection he with he;injection he with e1 e2;subst e1 e2;have Oc:(⟨b,off,none⟩:Addr).add j=⟨b,off+j,none⟩:=by
     unfold Addr.add;split <;>simp_all
    rw [Oc];exact hc
  ·intro v' w' h2 h3 h4
   refine h v' w' ?_ h3 h4;rw [dU,ah,cg];exact h2
section
section
variable {α:Type} {k:Nat} {enc:α ->List Value}
def ee (k:Nat) (enc:α ->List Value) (w:World) (v:Value) (l:List α):Prop:=
 ∃a cap,v= .slice a l.length cap/\l.length <=cap/\cap <=maxLen/\∀i x,l[i]?=some x ->∃b off,a=some ⟨b,off,none⟩/\b < w.heap.size/\∀j u,(enc x)[j]?=some u ->w.cell? ⟨b,off+i*k+j,none⟩=some u
theorem ee.below {w w':World} {v:Value} {l:List α} (h:ee k enc w v l) (hb:Below w.heap.size w w'):ee k enc w' v l:=by
 obtain⟨a,cap,hv,h1,h2,h3⟩:=h;refine⟨a,cap,hv,h1,h2,fun i x hx=>?_⟩;obtain⟨b,off,ha,Kq,hc⟩:=h3 i x hx;exact⟨b,off,ha,bK Kq hb.size,fun j u hu=>by rw [hb.cell Kq];exact hc j u hu⟩
theorem ee.nil (w:World):ee k enc w (.slice none 0 0) []:=⟨none,0,rfl,ag _,by simp [maxLen],by simp⟩
theorem jL (hk:∀x,(enc x).length=k) (l:List α):(l.flatMap enc).length=l.length*k:=by
 induction l with
 | nil=>simp
 | cons e l ih=>simp only [bR,ah,aI,ih,hk];rw [cV,Nat.one_mul,Nat.add_comm]
theorem qV (hk:∀x,(enc x).length=k):∀(l:List α) (i:Nat) (x:α) (j:Nat),l[i]?=some x ->j < k ->(l.flatMap enc)[i*k+j]?=(enc x)[j]?
 | [],i,x,j,h,_=>by simp at h
 | d::l,0,x,j,h,hj=>by
  simp at h;subst h;rw [bR,bD (by rw [hk];omega)];simp
 | d::l,i+1,x,j,h,hj=>by
  rw [bR,bp (by rw [hk,cV];omega)];rw [show(i+1)*k+j - (enc d).length=i*k+j from by rw [hk,cV];omega];exact qV hk l i x j (by simpa using h) hj
def dR (t:TypeId) (k:Nat) (enc:α ->List Value) (w:World) (B:Nat) (v:Value) (l:List α):Prop:=w.ownsRow B t k v l.length (l.flatMap enc)
variable {t:TypeId}
theorem dR.nil (w:World) (B:Nat):dR t k enc w B (.slice none 0 0) []:=World.ownsRow_nil w B _ _
theorem dR.keeps {w w':World} {S:Nat ->Prop} {B:Nat} {v:Value} {l:List α} (h:dR t k enc w B v l) (hk:dS S w w') (hs:∀k,ey v k ->¬ S k):dR t k enc w' B v l:=mm h hk hs
theorem dR.below {w w':World} {B:Nat} {v:Value} {l:List α} (h:dR t k enc w B v l) (hk:Below w.heap.size w w'):dR t k enc w' B v l:=
 mm h (dS.dV (S:=fun _=>False) hk) (fun _ _ h=>h)
theorem dR.fD {w:World} {B:Nat} {v:Value} {l:List α} (hk:∀x,(enc x).length=k) (h:dR t k enc w B v l):ee k enc w v l:=by
 obtain⟨hl,hv | ⟨g,cap,cur,hv,hb,hg,hn,hm,hs,ht⟩⟩:=h
 ·obtain⟨rfl,h0⟩:=hv
  obtain rfl:l=[]:=aH h0;exact ee.nil w
 ·refine⟨_,cap,hv,hn,hm,fun i x hx=>⟨g,0,rfl,(cq.1 hg).1,fun j u hu=>?_⟩⟩
  have hj:j < k:=by rw [<- hk x];exact(aL.1 hu).1
  have hi:i < l.length:=(aL.1 hx).1;rw [cell_of_row w g _ cur _ _ hg,bX];have h1:=qV hk l i x j hx hj;rw [<- ht,cG]at h1;have h2:i*k+j < l.length*k:=by
   have:(i+1)*k <=l.length*k:=dk _ hi;rw [cV]at this;omega
  rw [aJ h2]at h1;rw [<- hu, <- h1];simp
theorem eQ {P:Program} (w:World) {ops:Array Oper} {rest:List Oper} {o:Oper} {a:Act} {Q:Exit ->Act ->World ->Prop} (Ob:o.guard=none) (s x:Operand) (ts:TypeId)
  (ho:o.op= .call {callee:= .builtin .append,args:=#[s,x],argTypes:=#[ts,ts]})
  (z:Value) (bytes:Nat) (ht:P.underlying ts=some (.slice t)) (hi:(P.info? t).map (fun i=>(i.zero,i.size,i.bytes))=some (some z,k,bytes)) (hzs:z.cells.size=k) (h0:0 < k) (MX:bytes <=100000000)
  (B:Nat) (v:Value) (l:List α) (hs:a.eval s=v) (Ki:dR t k enc w B v l)
  (y:α) (cs:Array Value) (Qm:cs=(enc y).toArray) (hk:(enc y).length=k) (h1:∀u∈enc y,u.oneCell'=true) (hx:a.eval x= .slice (some ⟨w.heap.size,0,none⟩) 1 1)
  (Ou:l.length <=1000000) (KO:B <=w.heap.size)
  (h:∀v' w',dR t k enc w' B v' (l++[y]) ->dS (ey v) w w' ->eC w v v' ->wpList P ops Q rest (a.put o.dst v') w'):
  wpList P ops Q (o::rest) a (w.alloc (.cells cs t)):=by
 subst Qm;obtain⟨i0,hi,MY,LG,Mm⟩:=cd hi;refine se (P:=P) w Ob s x ts ho B t i0 z k bytes ht hi MY LG Mm hzs h0 v l.length (l.flatMap enc) hs Ki (enc y) hx (by omega) h1 (by simp only [maxLen];omega) ?_ KO ?_
 ·have:(l.length+1)*bytes <=1000001*100000000:=Nat.mul_le_mul (by omega) MX
  omega
 ·intro v' w' h2 h3 h4
  refine h v' w' ?_ h3 h4;simpa [dR] using h2
end
theorem ee.keeps {α:Type} {k:Nat} {enc:α ->List Value} {w w':World} {v:Value} {l:List α} {S:Nat ->Prop} (h:ee k enc w v l) (hk:dS S w w') (hs:∀a n cap,v= .slice (some a) n cap ->¬ S a.block):ee k enc w' v l:=by
 obtain⟨a,cap,hv,h1,h2,h3⟩:=h;refine⟨a,cap,hv,h1,h2,fun i x hx=>?_⟩;obtain⟨b,off,ha,Kq,hc⟩:=h3 i x hx;refine⟨b,off,ha,bK Kq hk.size,fun j u hu=>?_⟩;rw [bg (w:=w) (a:=⟨b,off+i*k+j,none⟩) (hk.block b Kq (by rw [hv,ha]at hs;exact hs _ _ _ rfl))];exact hc j u hu
theorem dR.block {α:Type} {t:TypeId} {k:Nat} {enc:α ->List Value} {w:World} {B:Nat} {u:Value} {l:List α} (h:dR t k enc w B u l):∀a n cap,u= .slice (some a) n cap ->B <=a.block/\a.block < w.heap.size:=by
 intro a n cap he;obtain⟨_,⟨hv,_⟩ | ⟨g,KE,cur,hv,hb,hg,_⟩⟩:=h
 ·rw [hv]at he;cases he
 ·rw [hv]at he
  injection he with e1 e2 e3;injection e1 with e1;subst e1;exact⟨hb,(cq.1 hg).1⟩
end
def Bu (s:Int):List UInt8 ->Int
 | []=>s
 | x::l=>(x.toNat %128:Nat)+128*Bu s l
def pW (l:List UInt8):Int:=match l.getLast? with
 | some x=>if x.toNat %128 < 64 then 0 else -1
 | none=>0
def zr (l:List UInt8):Int:=Bu (pW l) l
def jo (bits:Int) (l:List UInt8):Int × Nat × Int:=
 if(eY bits l).2≠0 then(0,0,(eY bits l).2)
 else if ib (zr (l.take (eY bits l).1))=l.take (eY bits l).1/\ -(2^(bits.toNat - 1)) <=zr (l.take (eY bits l).1)/\zr (l.take (eY bits l).1) < 2^(bits.toNat - 1)then(zr (l.take (eY bits l).1),(eY bits l).1,0)
 else(0,0,1)
def JU (bits:Int) (l:List UInt8) (w:World) (e:Ending) (w':World):Prop:=
 e= .returned (.tuple #[.int .i64 (jo bits l).1, .int .i64 (jo bits l).2.1, .int .i64 (jo bits l).2.2])/\Below w.heap.size w w'
def BZ (n:Int):Int:=(n+9223372036854775808) %18446744073709551616 - 9223372036854775808
theorem Iq (a c:Int) (ha:a %128=0) (h0:0 <=c) (h1:c < 128):bits .or .i64 a c=BZ (a+c):=by
 unfold bits BZ;simp only [IntKind.bits,IntKind.wrap_i64];have e1:(BitVec.ofInt 64 a).toNat=(a %18446744073709551616).toNat:=by simp [BitVec.toNat_ofInt]
 have e2:(BitVec.ofInt 64 c).toNat=c.toNat:=by
  have:(BitVec.ofInt 64 c).toNat=(c %18446744073709551616).toNat:=by simp [BitVec.toNat_ofInt]
  rw [this];omega
 have e3:(BitVec.ofInt 64 a ||| BitVec.ofInt 64 c).toNat=(a %18446744073709551616).toNat+c.toNat:=by
  rw [BitVec.toNat_or,e1,e2,nat_join 7 _ _ (by omega) (by omega)]
 have e4:=cW (fun n:Nat=>((n:Int)+9223372036854775808) %18446744073709551616 - 9223372036854775808) e3;refine Eq.trans e4 ?_;omega
theorem Ii:∀x:Fin 256,x.val&&&64=if x.val %128 < 64 then 0 else 64:=by decide+kernel
theorem xQ (n:Nat) (h:n < 256):bits .and .u8 (n:Int) 64=if n %128 < 64 then 0 else 64:=by
 have h0:=u8_and_nat n 64 h (by omega);rw [Ii ⟨n,h⟩]at h0;refine h0.trans ?_;by_cases h:n %128 < 64
 ·rw [aJ h,aJ h];rfl
 ·rw [aC h,aC h];rfl
theorem IC (x:Int) (y:Nat) (hy:y < 256):
  bits .or .i64 (wrap64 (x*128)) (wrap64 (bits .andNot .u8 (y:Int) 128))=BZ ((y %128:Nat)+128*x):=by
 rw [Iu y hy];have h2:wrap64 ((y %128:Nat):Int)=((y %128:Nat):Int):=by unfold wrap64;omega
 rw [h2,Iq _ _ (by unfold wrap64;omega) (by omega) (by omega)];unfold wrap64 BZ;omega
theorem DB (c x:Int):BZ (c+128*BZ x)=BZ (c+128*x):=by
 unfold BZ;omega
theorem zV {l:List UInt8} {j:Nat} {y:UInt8} (hy:l[j]?=some y):pW (l.take (j+1))=if y.toNat %128 < 64 then 0 else -1:=by
 obtain⟨Kq,he⟩:=aL.1 hy;have:(l.take (j+1)).getLast?=some y:=by
  rw [dG,aR,cJ (by omega),de,cG,aJ (by omega),hy]
 rw [pW,this]
theorem C7:∀(f:Nat) (n:Int),-((128:Int)^(f+1)) <=2*n ->2*n < 128^(f+1) ->iA (f+1) n≠[]/\Bu (pW (iA (f+1) n)) (iA (f+1) n)=n:=by
 intro f
 induction f with
 | zero=>
  intro n h h';rw [iA,aJ (by omega)];refine⟨by simp,?_⟩;simp only [pW,List.getLast?_singleton,Bu];rw [fJ (by omega)];split <;>omega
 | succ f ih=>
  intro n h h';rw [iA];split
  ·rename_i hs
   refine⟨by simp,?_⟩;simp only [pW,List.getLast?_singleton,Bu];rw [fJ (by omega)];split <;>omega
  ·rename_i hs
   rw [bV,bV]at h h';obtain⟨h1,h2⟩:=ih (n/128) (by rw [bV];omega) (by rw [bV];omega);refine⟨by simp,?_⟩;have h3:pW (b8 ((n %128).toNat+128)::iA (f+1) (n/128))=pW (iA (f+1) (n/128)):=by
    cases hc:iA (f+1) (n/128)with
    | nil=>exact absurd hc h1
    | cons x l=>simp [pW,c9]
   rw [h3,Bu,h2,fJ (by omega)];omega
theorem rO {n:Int} (h: -9223372036854775808 <=n) (h':n < 9223372036854775808):zr (ib n)=n:=(C7 9 n (by omega) (by omega)).2
theorem oF {x:Int} {n:Nat}:x/2^n=0↔0 <=x/\x < 2^n:=by
 have hp:(0:Int) < 2^n:=Int.pow_pos (by omega)
 constructor
 ·intro h
  have h1:=Int.emod_nonneg x (Int.ne_of_gt hp);have h2:=Int.emod_lt_of_pos x hp;have h3:=Int.mul_ediv_add_emod x (2^n);rw [h]at h3;omega
 ·rintro⟨h1,h2⟩
  exact Int.ediv_eq_zero_of_lt h1 h2
theorem sh {x:Int} {n:Nat}:x/2^n= -1↔-(2^n) <=x/\x < 0:=by
 have hp:(0:Int) < 2^n:=Int.pow_pos (by omega);have e:x/2^n=(x+2^n)/2^n - 1:=by
  have:=Int.add_mul_ediv_right x 1 (Int.ne_of_gt hp);rw [Int.one_mul]at this;omega
 rw [e];have:=@oF (x+2^n) n;omega
theorem BY {bits:Int} {l:List UInt8} {k:Nat} {x:Int} (he:(eY bits l).2=0) (hk:k=(eY bits l).1) (hx:x=BZ (Bu (pW (l.take k)) (l.take k)))
  (hs:(l.take k==ib x)=true) (hr:x/2^(bits.toNat - 1)=0\/x/2^(bits.toNat - 1)= -1):jo bits l=(x,k,0):=by
 obtain⟨h1,h2,_⟩:=iY he;have hs':l.take k=ib x:=by simpa using hs
 have hx1: -9223372036854775808 <=x/\x < 9223372036854775808:=by rw [hx];unfold BZ;omega
 have hv:zr (l.take k)=x:=by rw [hs'];exact rO hx1.1 hx1.2
 rw [oF,sh]at hr;have hp:(0:Int) < 2^(bits.toNat - 1):=Int.pow_pos (by omega);rw [jo,aC (by rw [he];simp), <- hk,hv,aJ ⟨hs'.symm,by omega,by omega⟩]
theorem zH {bits:Int} {l:List UInt8} {k:Nat} {x:Int} (he:(eY bits l).2=0) (hk:k=(eY bits l).1) (hx:x=BZ (Bu (pW (l.take k)) (l.take k)))
  (hs:(l.take k==ib x)=false\/¬ (x/2^(bits.toNat - 1)=0\/x/2^(bits.toNat - 1)= -1)):jo bits l=(0,0,1):=by
 obtain⟨h1,h2,_⟩:=iY he;rw [jo,aC (by rw [he];simp), <- hk,aC];rintro⟨h3,h4,h5⟩;have h6:(2:Int)^(bits.toNat - 1) <=9223372036854775808:=by
  have h7:(2:Nat)^(bits.toNat - 1) <=2^63:=cQ (by omega) (by omega);have h8:((2^(bits.toNat - 1):Nat):Int) <=((2^63:Nat):Int):=Int.ofNat_le.2 h7;rw [Int.natCast_pow]at h8;exact h8
 have hv:x=zr (l.take k):=by
  rw [hx, <- zr];unfold BZ;omega
 rcases hs with h | h
 ·rw [hv,h3,beq_self_eq_true]at h
  cases h
 ·apply h
  rw [oF,sh,hv];omega
theorem FO {s:Int} {l:List UInt8} {k j:Nat} {y:UInt8} (hy:l[j]?=some y) (hj:j < k):Bu s ((l.take k).drop j)=(y.toNat %128:Nat)+128*Bu s ((l.take k).drop (j+1)):=by
 have h:(l.take k)[j]?=some y:=by rw [cG,aJ hj];exact hy
 obtain⟨Kq,he⟩:=aL.1 h;rw [cA Kq,Bu,he]
def SJ (l:List UInt8) (k:Nat) (w w':World) (x:Int) (i:Nat):Prop:=w'=w/\i <=k/\x=BZ (Bu (pW (l.take k)) ((l.take k).drop i))
theorem B9 (b:Value) (l:List UInt8) (bits:Int) (w:World) (hb:eI w b l) (Kw: -9223372036854775808 <=bits) (Kl:bits <=9223372036854775807):
  Calls prog 282 #[b, .int .i64 bits] w (JU bits l w):=by
 by_cases he:(eY bits l).2=0
 ·obtain⟨k,hk⟩:∃k,k=(eY bits l).1:=⟨_,rfl⟩
  have HK:=V hk;have Pk:=V hb;obtain⟨K4,Md,LH,Kp,KS⟩:=iY he;have OR:1 <=k:=by omega
  have Lg:k <=l.length:=by omega
  have OS:k <=10:=by omega
  clear LH Kp KS;obtain⟨a,cap,rfl,hl,hm,hc⟩:=hb;unfold maxLen at hm;have HC:=V hc;have HE:=V he;clear hc hk he;go_enter func282,ntmps282;go_wp2;refine jY 0 (fun a' w'=>∃(x:Int) (i:Nat) (u8 Qo PL Qp Qq Qr u16 Qs Qt Qu u20 u21 u22 u23 u24 u25 u26 u27 u28 u29 u30 u31 u32 u33 u34 u35 u36 u37 u38 u39 u40 u41 u42 u43 u44 u45 u46 u47 u48 u49 u50 u51 u52 u53 u54 u55 u56 u57 u58 u59 u60 u61 u62:Value),a'={tmps:=#[.slice a l.length cap, .int .i64 bits,undef,undef, .int .i64 0, .int .i64 0, .int .i64 0, .int .i64 k,u8, .int .i64 x, .int .i64 i,Qo,PL,Qp,Qq,Qr,u16,Qs,Qt,Qu,u20,u21,u22,u23,u24,u25,u26,u27,u28,u29,u30,u31,u32,u33,u34,u35,u36,u37,u38,u39,u40,u41,u42,u43,u44,u45,u46,u47,u48,u49,u50,u51,u52,u53,u54,u55,u56,u57,u58,u59,u60,u61,u62],defers:=[]}/\SJ l k w w' x i) (fun a' _=>(intOf (a'.tmps.getD 10 undef)).toNat) rfl ?_ ?_
  ·rintro a' w1 ⟨x,i,u8,Qo,PL,Qp,Qq,Qr,u16,Qs,Qt,Qu,u20,u21,u22,u23,u24,u25,u26,u27,u28,u29,u30,u31,u32,u33,u34,u35,u36,u37,u38,u39,u40,u41,u42,u43,u44,u45,u46,u47,u48,u49,u50,u51,u52,u53,u54,u55,u56,u57,u58,u59,u60,u61,u62,rfl,hJ⟩
   obtain⟨rfl,hik,hx⟩:=hJ;have HX:=V hx;clear hx;by_cases hi:i=0
   ·subst hi
    rw [List.drop_zero]at HX;have MZ: -9223372036854775808 <=x/\x <=9223372036854775807:=by rw [HX.out];unfold BZ;omega
    have hbt:eI w1 (.slice a k cap) (l.take k):=Pk.out.take k Lg;have HBT:=V hbt;clear hbt;by_cases hs:(l.take k==ib x)=true
    ·by_cases hr:x/2^(bits.toNat - 1)=0
     ·have r1:=eF hr
      have r2:(x/2^(bits.toNat - 1) !=0)=false:=jI hr;have HR:=V hr;clear hr;have HS:=V hs;clear hs;go_wp2_with fail;refine ed (fun _=>True) (up 0 4 ((4,false)::(5,false)::up 6 9 [])) (by kernel_rfl) (by kernel_rfl) trivial ?_;iterate 4 (first | (apply sk rfl rfl;simp only [pt]) | (apply dT rfl rfl rfl;·(intro w' _;go_wp2;exact⟨rfl,rfl,rfl⟩)))
      refine dZ rfl rfl ?_;go_wp2_with (go_at_call 236;refine(mE _ [] x MZ.1 MZ.2 w1.heap.size _ (dU.nil _ _) (by simp) (by simp)).mono ?_;rintro e w2 ⟨v2,rfl,KB,Kp,Ku⟩);have Kl:=fM (Kp.below (ag _) (by intro i hi;cases hi));refine⟨trivial,?_⟩;refine dZ rfl rfl ?_;go_wp2_with (go_at_call 269;refine(lK _ _ (l.take k) (ib x) _ (HBT.out.below Kl) KB.fm).mono ?_;rintro e w3 ⟨rfl,rfl⟩;rw [HS.out]);refine⟨trivial,?_⟩;iterate 9 (first | (apply sk rfl rfl;simp only [pt]) | (apply dT rfl rfl rfl;·(intro w' _;go_wp2;exact⟨rfl,rfl,rfl⟩)))
      refine eH ?_;refine aD ?_;go_wp2;rw [iJ]
      go_ret3
      refine⟨?_,Kl⟩;rw [BY HE.out HK.out HX.out HS.out (.inl HR.out)];rfl
     by_cases hr':x/2^(bits.toNat - 1)= -1
     ·have r1:=eF hr'
      have r2:(x/2^(bits.toNat - 1) !=0)=true:=fc hr;have r3:(x/2^(bits.toNat - 1) != -1)=false:=jI hr';have HR:=V hr';clear hr hr';have HS:=V hs;clear hs;go_wp2_with fail;refine ed (fun _=>True) (up 0 4 ((4,false)::(5,false)::up 6 9 [])) (by kernel_rfl) (by kernel_rfl) trivial ?_;iterate 4 (first | (apply sk rfl rfl;simp only [pt]) | (apply dT rfl rfl rfl;·(intro w' _;go_wp2;exact⟨rfl,rfl,rfl⟩)))
      refine dZ rfl rfl ?_;go_wp2_with (go_at_call 236;refine(mE _ [] x MZ.1 MZ.2 w1.heap.size _ (dU.nil _ _) (by simp) (by simp)).mono ?_;rintro e w2 ⟨v2,rfl,KB,Kp,Ku⟩);have Kl:=fM (Kp.below (ag _) (by intro i hi;cases hi));refine⟨trivial,?_⟩;refine dZ rfl rfl ?_;go_wp2_with (go_at_call 269;refine(lK _ _ (l.take k) (ib x) _ (HBT.out.below Kl) KB.fm).mono ?_;rintro e w3 ⟨rfl,rfl⟩;rw [HS.out]);refine⟨trivial,?_⟩;iterate 9 (first | (apply sk rfl rfl;simp only [pt]) | (apply dT rfl rfl rfl;·(intro w' _;go_wp2;exact⟨rfl,rfl,rfl⟩)))
      refine eH ?_;refine aD ?_;go_wp2;rw [iJ]
      go_ret3
      refine⟨?_,Kl⟩;rw [BY HE.out HK.out HX.out HS.out (.inr HR.out)];rfl
     ·have r2:(x/2^(bits.toNat - 1) !=0)=true:=fc hr
      have r3:(x/2^(bits.toNat - 1) != -1)=true:=fc hr';have HR:=V hr;have HR':=V hr';clear hr hr';have HS:=V hs;clear hs;go_wp2_with fail;refine ed (fun _=>True) (up 0 4 ((4,false)::(5,false)::up 6 9 [])) (by kernel_rfl) (by kernel_rfl) trivial ?_;iterate 4 (first | (apply sk rfl rfl;simp only [pt]) | (apply dT rfl rfl rfl;·(intro w' _;go_wp2;exact⟨rfl,rfl,rfl⟩)))
      refine dZ rfl rfl ?_;go_wp2_with (go_at_call 236;refine(mE _ [] x MZ.1 MZ.2 w1.heap.size _ (dU.nil _ _) (by simp) (by simp)).mono ?_;rintro e w2 ⟨v2,rfl,KB,Kp,Ku⟩);have Kl:=fM (Kp.below (ag _) (by intro i hi;cases hi));refine⟨trivial,?_⟩;refine dZ rfl rfl ?_;go_wp2_with (go_at_call 269;refine(lK _ _ (l.take k) (ib x) _ (HBT.out.below Kl) KB.fm).mono ?_;rintro e w3 ⟨rfl,rfl⟩;rw [HS.out]);refine⟨trivial,?_⟩;iterate 9 (first | (apply sk rfl rfl;simp only [pt]) | (apply dT rfl rfl rfl;·(intro w' _;go_wp2;exact⟨rfl,rfl,rfl⟩)))
      refine eH ?_;refine aD ?_;go_wp2;rw [iJ]
      go_ret3
      refine⟨?_,Kl⟩;rw [zH HE.out HK.out HX.out (.inr (fun h=>h.elim HR.out HR'.out))];rfl
    ·rw [Bool.not_eq_true]at hs
     have HS:=V hs;clear hs;go_wp2_with fail;refine ed (fun _=>True) (up 0 4 ((4,false)::(5,false)::up 6 9 [])) (by kernel_rfl) (by kernel_rfl) trivial ?_;iterate 4 (first | (apply sk rfl rfl;simp only [pt]) | (apply dT rfl rfl rfl;·(intro w' _;go_wp2;exact⟨rfl,rfl,rfl⟩)))
     refine dZ rfl rfl ?_;go_wp2_with (go_at_call 236;refine(mE _ [] x MZ.1 MZ.2 w1.heap.size _ (dU.nil _ _) (by simp) (by simp)).mono ?_;rintro e w2 ⟨v2,rfl,KB,Kp,Ku⟩);have Kl:=fM (Kp.below (ag _) (by intro i hi;cases hi));refine⟨trivial,?_⟩;refine dZ rfl rfl ?_;go_wp2_with (go_at_call 269;refine(lK _ _ (l.take k) (ib x) _ (HBT.out.below Kl) KB.fm).mono ?_;rintro e w3 ⟨rfl,rfl⟩;rw [HS.out]);refine⟨trivial,?_⟩;iterate 9 (first | (apply sk rfl rfl;simp only [pt]) | (apply dT rfl rfl rfl;·(intro w' _;go_wp2;exact⟨rfl,rfl,rfl⟩)))
     refine eH ?_;refine aD ?_;go_wp2;rw [iJ]
     go_ret3
     refine⟨?_,Kl⟩;rw [zH HE.out HK.out HX.out (.inl HS.out)];rfl
   ·obtain⟨j,rfl⟩:∃j,i=j+1:=⟨i - 1,by omega⟩
    obtain⟨y,hy⟩:∃y,l[j]?=some y:=⟨_,aq (show j < l.length by omega)⟩;obtain⟨b,off,rfl,hc⟩:=HC.out j y hy;have hy8:=y.toNat_lt;have HY:=V hy;clear hy;have Kq:j < l.length:=by omega
    go_wp2_with fail
    go_step3
    simp only [Exit.then];rw [IC x y.toNat hy8];refine lh ⟨_,j,_,_,_,_,_,_,_,_,_,_,_,_,_,_,_,_,_,_,_,_,_,_,_,_,_,_,_,_,_,_,_,_,_,_,_,_,_,_,_,_,_,_,_,_,_,_,_,_,_,_,_,_,_,rfl,rfl,by omega,?_⟩ ?_
    ·rw [FO HY.out (by omega),HX.out,DB]
    ·simp [intOf]
  ·intro H
   have Hh:=V H;clear H;obtain⟨y,hy⟩:∃y,l[k - 1]?=some y:=⟨_,aq (show k - 1 < l.length by omega)⟩;obtain⟨b,off,rfl,hc⟩:=HC.out (k - 1) y hy;obtain⟨j,rfl⟩:∃j,k=j+1:=⟨k - 1,by omega⟩;rw [de]at hc;have hy8:=y.toNat_lt;have HY:=V hy;clear hy;have Nk:=xQ y.toNat hy8;have HB6:=V Nk;clear Nk;rcases bq (y.toNat %128) 64 with hy6 | hy6
   ·have r1:(Go.bits .and .u8 (y.toNat:Int) 64 !=0)=false:=by rw [HB6.out,aJ hy6];rfl
    go_wp2_with (go_at_call 268;refine(mP _ l _ _ Pk.out (by omega) (by omega)).mono ?_;rintro e w' ⟨rfl,rfl⟩;rw [HE.out, <- HK.out])
    go_step3
    go_step
    go_step
    refine Hh.out _ _ ⟨_,j+1,_,_,_,_,_,_,_,_,_,_,_,_,_,_,_,_,_,_,_,_,_,_,_,_,_,_,_,_,_,_,_,_,_,_,_,_,_,_,_,_,_,_,_,_,_,_,_,_,_,_,_,_,_,rfl,rfl,ag _,?_⟩;rw [List.drop_eq_nil_of_le (by rw [aR];omega),Bu,zV (j:=j) HY.out,aJ hy6];rfl
   ·have r1:(Go.bits .and .u8 (y.toNat:Int) 64 !=0)=true:=by rw [HB6.out,aC (by omega)];rfl
    go_wp2_with (go_at_call 268;refine(mP _ l _ _ Pk.out (by omega) (by omega)).mono ?_;rintro e w' ⟨rfl,rfl⟩;rw [HE.out, <- HK.out])
    go_step3
    go_step
    go_step
    refine Hh.out _ _ ⟨_,j+1,_,_,_,_,_,_,_,_,_,_,_,_,_,_,_,_,_,_,_,_,_,_,_,_,_,_,_,_,_,_,_,_,_,_,_,_,_,_,_,_,_,_,_,_,_,_,_,_,_,_,_,_,_,rfl,rfl,ag _,?_⟩;rw [List.drop_eq_nil_of_le (by rw [aR];omega),Bu,zV (j:=j) HY.out,aC (by omega)];rfl
 ·have HE:=V he
  have Pk:=V hb;have HB:=V (dQ he);clear he hb;go_enter func282,ntmps282;go_wp2
  go_step3
  go_wp2_with (go_at_call 268;refine(mP _ l _ _ Pk.out (by omega) (by omega)).mono ?_;rintro e w' ⟨rfl,rfl⟩;have hb:=HB.out);rw [Exit.noGoto_ret]
  go_ret3
  refine⟨?_,an _ _⟩;rw [jo,aJ HE.out];rfl
structure fb where
 kind:Int
 n:Int
deriving DecidableEq
def gg (v:fb):List Value:=[.int .i64 v.kind, .int .i64 v.n]
theorem gh (v:fb):(gg v).length=2:=rfl
theorem lI (v:fb):∀u∈gg v,u.oneCell'=true:=by
 intro u hu;simp only [gg,bJ,bO,cS]at hu;rcases hu with rfl | rfl <;>rfl
def fb.ok (v:fb):Prop:=(-9223372036854775808 <=v.kind/\v.kind <=9223372036854775807)/\(-9223372036854775808 <=v.n/\v.n <=9223372036854775807)
def fb.may (v:fb):Prop:=v.kind=2\/v.kind=1/\ -2147483648 <=v.n/\v.n <=2147483647
instance (v:fb):Decidable v.may:=by unfold fb.may;infer_instance
def et (b:Bool) (w:World) (e:Ending) (w':World):Prop:=e= .returned (.bool b)/\Below w.heap.size w w'
theorem ni (v:fb) (w:World):Calls prog 135 #[.agg #[.int .i64 v.kind, .int .i64 v.n]] w (et (decide v.may) w):=by
 by_cases q0:v.kind=2
 ·have f0:=eF q0
  have Q0:=V q0;clear q0;rw [show decide v.may=true from az (.inl Q0.out)];go_enter func135,ntmps135;go_wp2_with fail;go_ret;exact⟨rfl,(an _ _).alloc (ag _) _⟩
 have f0:=dQ q0;by_cases q1:v.kind=1
 ·have f1:=eF q1
  by_cases q2: -2147483648 <=v.n
  ·have f2:decide (-2147483648 <=v.n)=true:=az q2
   by_cases q3:v.n <=2147483647
   ·have f3:decide (v.n <=2147483647)=true:=az (by omega)
    have Q1:=V q1;clear q1 q0;rw [show decide v.may=true from az (.inr ⟨Q1.out,q2,q3⟩)];go_enter func135,ntmps135;go_wp2_with fail;go_ret;exact⟨rfl,(an _ _).alloc (ag _) _⟩
   ·have f3:decide (v.n <=2147483647)=false:=aA (by omega)
    have Q0:=V q0;clear q0 q1;rw [show decide v.may=false from aA (fun h=>h.elim Q0.out (fun h=>q3 h.2.2))];go_enter func135,ntmps135;go_wp2_with fail;go_ret;exact⟨rfl,(an _ _).alloc (ag _) _⟩
  ·have f2:decide (-2147483648 <=v.n)=false:=aA q2
   have Q0:=V q0;clear q0 q1;rw [show decide v.may=false from aA (fun h=>h.elim Q0.out (fun h=>q2 h.2.1))];go_enter func135,ntmps135;go_wp2_with fail;go_ret;exact⟨rfl,(an _ _).alloc (ag _) _⟩
 ·have f1:=dQ q1
  have Q0:=V q0;have Q1:=V q1;clear q0 q1;rw [show decide v.may=false from aA (fun h=>h.elim Q0.out (fun h=>Q1.out h.1))];go_enter func135,ntmps135;go_wp2_with fail;go_ret;exact⟨rfl,(an _ _).alloc (ag _) _⟩
def sy {α:Type} (p:α ->Bool) (l:List α):Int:=match l.findIdx? p with | some i=>i | none=> -1
theorem ie {α:Type} {p:α ->Bool} {l:List α} {k:Nat} {e:α} (he:l[k]?=some e) (hn:p e=true) (hb:∀i,i < k ->∀d,l[i]?=some d ->p d=false):sy p l=k:=by
 obtain⟨hk,rfl⟩:=aL.1 he;have:l.findIdx? p=some k:=by
  rw [List.findIdx?_eq_some_iff_getElem];refine⟨hk,hn,fun j hj=>?_⟩;rw [hb j hj _ (aq (by omega))];simp
 rw [sy,this]
theorem gL {α:Type} {p:α ->Bool} {l:List α} (hb:∀i,i < l.length ->∀d,l[i]?=some d ->p d=false):sy p l= -1:=by
 have:l.findIdx? p=none:=by
  rw [List.findIdx?_eq_none_iff];intro x hx;obtain⟨i,hi⟩:=List.mem_iff_getElem?.1 hx;exact hb i (aL.1 hi).1 x hi
 rw [sy,this]
theorem iu {α:Type} (p:α ->Bool) (l:List α):decide (0 <=sy p l)=l.any p:=by
 unfold sy;cases h:l.findIdx? p with
 | none=>
  rw [List.findIdx?_eq_none_iff]at h;have:l.any p=false:=by rw [dz];intro x hx;rw [h x hx];simp
  rw [this];rfl
 | some i=>
  rw [List.findIdx?_eq_some_iff_getElem]at h;obtain⟨hi,h1,_⟩:=h;have:l.any p=true:=List.any_eq_true.2 ⟨_,List.getElem_mem hi,h1⟩;rw [this];exact az (by show(0:Int) <=(i:Int);omega)
def jP {α:Type} (p:α ->Bool) (l:List α) (w:World) (e:Ending) (w':World):Prop:=e= .returned (.int .i64 (sy p l))/\Below w.heap.size w w'
def pI {α:Type} (p:α ->Bool) (l:List α) (w w':World) (k:Nat):Prop:=k <=l.length/\(∀i,i < k ->∀d,l[i]?=some d ->p d=false)/\Below w.heap.size w w'
def fk (xs ys:List UInt8) (B:Nat) (b:Value) (w:World) (e:Ending) (w':World):Prop:=
 ∃v',e= .returned v'/\dU w' B v' (xs++ys)/\dS (ey b) w w'/\eC w b v'
theorem lB (b:Value) (xs:List UInt8) (u:Nat) (h1:u <=9223372036854775807) (B:Nat) (w:World) (Ki:dU w B b xs) (hn:xs.length <=1000000000) (hB:B <=w.heap.size):
  Calls prog 119 #[b, .int .i64 u] w (fk xs (eL u) B b w):=by
 go_enter func119,ntmps119;go_wp2_with fail;refine(iT b xs u (by omega) B w Ki hn hB).mono ?_;rintro x w2 ⟨v,rfl,h2,h3,h4⟩;go_wp2_with fail;go_ret;exact⟨v,rfl,h2,h3,h4⟩
def qC (v:fb):List UInt8:=eL v.kind.toNat++ib v.n
def jE (l:List fb):List UInt8:=eL l.length++(l.map qC).flatten
theorem sX {n:Int} (h1: -9223372036854775808 <=n) (h2:n <=9223372036854775807):1 <=(ib n).length/\(ib n).length <=10:=by
 obtain⟨p,z,e1,_,_,e4⟩:=oR 9 n (by omega) (by omega);change ib n=p++[z]at e1;rw [e1];simp;omega
theorem FR {v:fb} (h:v.ok):(qC v).length <=20:=by
 have h1:=(eD v.kind.toNat).2;have h2:=(sX h.2.1 h.2.2).2;rw [qC,ah];omega
theorem nQ:∀l:List fb,(∀v∈l,v.ok) ->((l.map qC).flatten).length <=20*l.length
 | [],_=>by simp
 | v::l,h=>by
  have h1:=FR (h v (by simp));have h2:=nQ l (fun x hx=>h x (by simp [hx]));simp only [bC,bS,ah,aI];omega
def I0 (xs:List UInt8) (l:List fb) (B:Nat) (b:Value) (w w':World) (v:Value) (k:Nat):Prop:=
 k <=l.length/\dU w' B v (xs++(eL l.length++((l.take k).map qC).flatten))/\dS (ey b) w w'/\eC w b v
theorem sr (b:Value) (xs:List UInt8) (vl:Value) (l:List fb) (B:Nat) (w:World) (Ki:dU w B b xs) (hn:xs.length <=100000) (hB:B <=w.heap.size)
  (hl:ee 2 gg w vl l) (hm:∀v∈l,v.may) (Kt:∀v∈l,v.ok) (N7:l.length <=1000) (hvb:l≠[] ->∀i,ey b i ->∀a n c,vl= .slice (some a) n c ->a.block≠i):
  Calls prog 120 #[b,vl] w (fk xs (jE l) B b w):=by
 have HI:=V hl;have Lu:=V Kt;have HM:=V hm;have HVB:=V hvb;obtain⟨a,cap,rfl,h1,h2,_⟩:=hl;unfold maxLen at h2;clear Kt hm hvb;go_enter func120,ntmps120;go_wp2_with fail;refine(lB b xs l.length (by omega) B w Ki (by omega) hB).mono ?_;rintro x w1 ⟨v,rfl,ho,hk,hs⟩;go_wp2_with fail;refine ez (fun a' w'=>∃(v:Value) (k:Nat),a'=fr (v:: .slice a l.length cap::gs a' 2 9 (.slice a l.length cap:: .int .i64 l.length:: .int .i64 k::gs a' 14 12 []))/\I0 xs l B b w w' v k) (fun a' _=>(l.length - (intOf (a'.tmps.getD 13 undef)).toNat)) ?_ ?_
 ·exact⟨v,0,rfl,by omega,by simpa using ho,hk,hs⟩
 ·clear ho hk hs
  rintro R a' w1 ⟨v,k,Kk,hJ⟩ HR;dsimp only [fr,gs]at Kk;generalize slot a'=f at Kk;subst Kk;obtain⟨Lg,ho,hk,hs⟩:=hJ;have Lf:=hk.size;by_cases Kq:k < l.length
  ·obtain⟨e,he⟩:∃e,l[k]?=some e:=⟨_,aq Kq⟩
   obtain⟨a',KE,hv,_,_,Kh⟩:=HI.out;injection hv with e1 e2 e3;subst e1 e3;obtain⟨bb,off,rfl,L4,hc⟩:=Kh k e he;have Mf:¬ ey b bb:=fun h=>HVB.out (by rintro rfl;simp at Kq) bb h _ _ _ rfl rfl;have K6:∀j u,(gg e)[j]?=some u ->w1.cell? ⟨bb,off+k*2+j,none⟩=some u:=fun j u hu=>by
    rw [bg (w:=w) (a:=⟨bb,off+k*2+j,none⟩) (hk.block bb L4 Mf)];exact hc j u hu
   have c0:=K6 0 _ rfl;have c1:=K6 1 _ rfl;rw [aK]at c0;have hme:=HM.out e (aO he);obtain⟨⟨m1,m2⟩,m3,m4⟩:=Lu.out e (aO he);obtain⟨n0,LP⟩:∃n:Nat,e.kind=n:=⟨e.kind.toNat,by rcases hme with h | h <;>omega⟩;have hn2:n0 <=2:=by rcases hme with h | h <;>omega
   rw [LP]at m1 m2 c0;have hlen:(xs++(eL l.length++((l.take k).map qC).flatten)).length <=200000:=by
    have g1:=(eD l.length).2;have g2:=nQ (l.take k) (fun x hx=>Lu.out x (cz hx));have g3:(l.take k).length <=1000:=by rw [aR];omega
    simp only [ah];omega
   have HV:=V (show qC e=eL n0++ib e.n by rw [qC,LP];rfl);have HE:=V he;generalize hL:xs++(eL l.length++((l.take k).map qC).flatten)=L at ho hlen;have HL:=V hL;clear hL Kh hc K6 e2 he hme LP;have Mh:∀i,ey v i ->i≠w1.heap.size:=fun i hi=>by have:=(eo ho hi).2;omega
   have HX0:=V Mh;clear Mh;go_wp2_with fail;refine ed (fun w'=>w'.cell? ⟨w1.heap.size,0,none⟩=some (.int .i64 n0)/\w'.cell? ⟨w1.heap.size,1,none⟩=some (.int .i64 e.n)) (up 0 3 ((4,true)::(5,true)::(3,false)::(6,false)::(7,true)::[])) (by kernel_rfl) (by kernel_rfl) ⟨by simp,by simp⟩ ?_;iterate 5 (first | (apply sk rfl rfl;simp only [pt]) | (apply dT rfl rfl rfl;·(rintro w' ⟨t0,t1⟩;go_wp2;exact⟨rfl,rfl,rfl⟩)))
   refine dZ rfl rfl ?_;go_wp2_with fail;have LH:dS (ey v) w1 (w1.alloc (.cells #[.int .i64 n0, .int .i64 e.n] 42)).drew:=((dS.refl _ _).alloc _).drew;have LI:eE (w1.alloc (.cells #[.int .i64 n0, .int .i64 e.n] 42)).drew w1.heap.size #[.int .i64 n0, .int .i64 e.n] 42:=(eE.new w1 _ _).drew;refine(lB v L n0 (by omega) B _ (ho.keeps (((dS.refl (fun _=>False) w1).alloc _).drew) (fun _ _ h=>h)) (by omega) (by simp;have:=(dS.refl (ey v) w1);omega)).mono ?_;rintro x w2 ⟨v2,rfl,KB,Kp,Ku⟩;have M0:=LI.keeps Kp (fun h=>HX0.out _ h rfl);have hn1:(eL n0).length <=10:=(eD _).2;go_wp2_with fail;refine⟨⟨M0.cell 0,M0.cell 1⟩,?_⟩;refine dZ rfl rfl ?_;have NM:=Kp.size;simp only [World.size_drew,aE]at NM;go_wp2_with fail;refine(mE v2 _ e.n m3 m4 B w2 KB (by simp only [ah];omega) (by omega)).mono ?_;rintro x w3 ⟨v3,rfl,Lq,KS,LS⟩;have Pm:=M0.keeps KS (fun h=>by
    rcases Ku _ h with g | g
    ·exact HX0.out _ g rfl
    ·simp at g
     omega)
   have PV:dS (ey v) w1 w2:=LH.trans Kp (fun i h=> .inl h);have hs12:eC w1 v v2:=fun i hi=>(Ku i hi).imp id (fun g=>by simp at g;omega);have PW:dS (ey v) w1 w3:=PV.trans KS (fun i h=>(hs12 i h));have hs13:eC w1 v v3:=hs12.trans LS PV.size;have hkf:dS (ey b) w w3:=hk.trans PW (fun i h=>(hs i h));have hsf:eC w b v3:=hs.trans hs13 hk.size;clear Kp Ku KS LS PV hs12 PW hs13 LH LI M0;go_wp2_with fail;refine⟨⟨Pm.cell 0,Pm.cell 1⟩,?_⟩;iterate 1 (first | (apply sk rfl rfl;simp only [pt]) | (apply dT rfl rfl rfl;·(rintro w' ⟨t0,t1⟩;go_wp2;exact⟨rfl,rfl,rfl⟩)))
   refine eH ?_;refine aD ?_;go_wp2_with fail;refine HR.out _ _ ⟨v3,k+1,rfl,by omega,?_,hkf,hsf⟩ ?_
   ·have e1:xs++(eL l.length++((l.take (k+1)).map qC).flatten)=L++eL n0++ib e.n:=by
     rw [<- HL.out,aQ,HE.out];simp [HV.out]
    rw [e1];exact Lq
   ·simp [intOf]
    omega
  ·obtain rfl:k=l.length:=by omega
   go_wp2_with fail;go_ret;refine⟨v,rfl,?_,hk,hs⟩;rw [aU]at ho;exact ho
theorem Bc (u:Nat) (rest:List UInt8) (hu:u < 4611686018427387904):ia 62 (eL u++rest)=(u,(eL u).length,0):=by
 obtain⟨p,z,h1,h2,h3,h4⟩:=qW 9 u (by omega);change eL u=p++[z]at h1;have hp:p.length <=8:=by
  rcases rz 10 u (by omega)with h | h
  ·change(eL u).length <=1 at h
   rw [h1]at h;simp at h;simp [h]
  ·change 128^((eL u).length - 1) <=u at h
   rw [h1,ah,aB,de]at h;rcases bq 8 p.length with g | g
   ·have:(128:Nat)^9 <=128^p.length:=cQ (by omega) g
    omega
   ·exact g
 have hl:eY 62 (eL u++rest)=((eL u).length,0):=by
  rw [h1,aP,dB];unfold eY;rw [aC (by omega),ou p z rest h2 h3,aC (by omega),aC (by simp)];simp
 unfold ia;rw [hl,aC (by simp)];have ht:(eL u++rest).take (eL u).length=eL u:=cP;simp only [ht];rw [rP (by omega),aJ ⟨rfl,by simpa using hu⟩]
theorem rK {l:List UInt8} (h:(ia 62 l).2.2=0):∃u rest,u < 4611686018427387904/\l=eL u++rest/\ia 62 l=(u,(eL u).length,0):=by
 unfold ia at h⊢;by_cases h1:(eY 62 l).2≠0
 ·rw [aJ h1]at h
  exact absurd h h1
 ·rw [aC h1]at h⊢
  by_cases h2:eL (oh (l.take (eY 62 l).1))=l.take (eY 62 l).1/\oh (l.take (eY 62 l).1) < 2^(62:Int).toNat
  ·rw [aJ h2]
   obtain⟨_,_,k1,k2,_⟩:=iY (dA.1 h1);refine⟨_,l.drop (eY 62 l).1,by simpa using h2.2,by rw [h2.1,cF],?_⟩;rw [h2.1,aR,cJ (by omega)]
  ·rw [aC h2]at h
   cases h
theorem uh (n:Int) (rest:List UInt8) (h0: -9223372036854775808 <=n) (h1:n <=9223372036854775807):jo 64 (ib n++rest)=(n,(ib n).length,0):=by
 obtain⟨p,z,e1,e2,e3,e4⟩:=oR 9 n (by omega) (by omega);change ib n=p++[z]at e1;have hl:eY 64 (ib n++rest)=((ib n).length,0):=by
  rw [e1,aP,dB];unfold eY;rw [aC (by omega),ou p z rest e2 e3,aC (by omega),aC (by simp)];simp
 unfold jo;rw [hl,aC (by simp)];have ht:(ib n++rest).take (ib n).length=ib n:=cP;simp only [ht];have h2:n < 9223372036854775808:=by omega
 rw [rO h0 h2,aJ ⟨rfl,h0,h2⟩]
theorem wO {l:List UInt8} (h:(jo 64 l).2.2=0):∃(n:Int) (rest:List UInt8),(-9223372036854775808 <=n/\n <=9223372036854775807)/\l=ib n++rest/\jo 64 l=(n,(ib n).length,0):=by
 unfold jo at h⊢;by_cases h1:(eY 64 l).2≠0
 ·rw [aJ h1]at h
  exact absurd h h1
 ·rw [aC h1]at h⊢
  split at h
  ·rename_i h2
   rw [aJ h2];obtain⟨_,_,k1,k2,_⟩:=iY (dA.1 h1);refine⟨_,l.drop (eY 64 l).1,?_,by rw [h2.1,cF],?_⟩
   ·have:=h2.2
    simp at this;omega
   ·rw [h2.1,aR,cJ (by omega)]
  ·cases h
def fE:Option (List UInt8) ->Nat × Option (List UInt8)
 | none=>(0,none)
 | some l=>if(ia 62 l).2.2=0 then((ia 62 l).1,some (l.drop (ia 62 l).2.1))else(0,none)
def ns:Option (List UInt8) ->Int × Option (List UInt8)
 | none=>(0,none)
 | some l=>if(jo 64 l).2.2=0 then((jo 64 l).1,some (l.drop (jo 64 l).2.1))else(0,none)
theorem wF (l:List UInt8):fE (some l)=if(ia 62 l).2.2=0 then((ia 62 l).1,some (l.drop (ia 62 l).2.1))else(0,none):=rfl
theorem wM (l:List UInt8):ns (some l)=if(jo 64 l).2.2=0 then((jo 64 l).1,some (l.drop (jo 64 l).2.1))else(0,none):=rfl
theorem kb (u:Nat) (r:List UInt8) (hu:u < 4611686018427387904):fE (some (eL u++r))=(u,some r):=by
 simp only [fE,Bc u r hu,cY,da]
theorem FI (n:Int) (r:List UInt8) (h0: -9223372036854775808 <=n) (h1:n <=9223372036854775807):ns (some (ib n++r))=(n,some r):=by
 simp only [ns,uh n r h0 h1,cY,da]
def n4:Option (List UInt8) ->Nat
 | none=>0
 | some l=>l.length+1
theorem sI (l:List UInt8):n4 (fE (some l)).2+1 <=n4 (some l):=by
 rw [wF];split
 ·rename_i h
  obtain⟨u,r,_,hl,hr⟩:=rK h;have:=(eD u).1;have h2:=cW List.length hl;rw [ah]at h2;simp only [hr,n4,bm];omega
 ·simp [n4]
theorem mS (st:Option (List UInt8)):n4 (fE st).2 <=n4 st:=by
 cases st with
 | none=>simp [fE]
 | some l=>have:=sI l;omega
theorem Gb (st:Option (List UInt8)):n4 (ns st).2 <=n4 st:=by
 cases st with
 | none=>simp [ns]
 | some l=>
  rw [wM];split
  ·simp only [n4,bm]
   omega
  ·simp [n4]
theorem lE (st:Option (List UInt8)):(fE st).1 < 4611686018427387904:=by
 cases st with
 | none=>simp [fE]
 | some l=>
  rw [wF];split
  ·rename_i h
   obtain⟨u,r,hu,_,hr⟩:=rK h;simp only [hr];exact hu
  ·simp
theorem F4 (st:Option (List UInt8)): -9223372036854775808 <=(ns st).1/\(ns st).1 <=9223372036854775807:=by
 cases st with
 | none=>simp [ns]
 | some l=>
  rw [wM];split
  ·rename_i h
   obtain⟨n,r,hn,_,hr⟩:=wO h;simp only [hr];exact hn
  ·simp
def Rd (B0:Nat) (w:World) (R:Nat) (st:Option (List UInt8)):Prop:=
 ∃a n cap,eE w R #[.slice a n cap, .bool st.isNone] 203/\∃l,(l≠[] ->∀ad,a=some ad ->ad.block < B0)/\eI w (.slice a n cap) l/\∀l',st=some l' ->l'=l
theorem ow {L p q:List UInt8} (hL:L=p++q) (a:Option Addr) (cap:Nat):∃a2 Kn,
  (∀wx,(Instr.slice 97 (.slice a L.length cap) (some (.int .i64 p.length)) none none).run prog wx= .ok (.slice a2 q.length Kn) wx)/\
  (∀wy,eI wy (.slice a L.length cap) L ->eI wy (.slice a2 q.length Kn) q)/\∀ad,a2=some ad ->∃ad0,a=some ad0/\ad.block=ad0.block:=by
 have hle:p.length <=L.length:=by rw [hL];simp
 have hd:L.drop p.length=q:=by rw [hL];exact da
 have hl:L.length - p.length=q.length:=by rw [hL];simp
 refine⟨if cap=p.length then a else a.map (·.add (p.length*1)),cap - p.length,fun wx=>?_,fun wy h=>?_,fun ad h=>?_⟩
 ·rw [pa a L.length cap p.length hle wx,sliceFrom,hl]
 ·have:=h.drop p.length hle
  rw [hd,sliceFrom,hl]at this;exact this
 ·split at h
  ·exact⟨ad,h,rfl⟩
  ·cases a with
   | none=>cases h
   | some a0=>
    injection h with h;subst h;refine⟨a0,rfl,?_⟩;unfold Addr.add;split <;>rfl
theorem eI.off {w w':World} {v:Value} {l:List UInt8} {R:Nat} {a:Option Addr} {n cap:Nat} {b:Bool} {t:TypeId} (h:eI w v l) (hb:eE w R #[.slice a n cap, .bool b] t) (hk:dS (fun i=>i=R) w w'):eI w' v l:=by
 obtain⟨a',KE,hv,h1,h2,h3⟩:=h;refine⟨a',KE,hv,h1,h2,fun i x hx=>?_⟩;obtain⟨g,off,ha,hc⟩:=h3 i x hx;refine⟨g,off,ha,?_⟩;have Kq:=aS w _ hc;have Mf:g≠R:=by
  rintro rfl;have LY:=hb.cell (off+i);rw [hc]at LY
  match off+i,LY with
  | 0,LY=>simp at LY
  | 1,LY=>simp at LY
  | n+2,LY=>simp at LY
 rw [bg (w:=w) (a:=⟨g,off+i,none⟩) (hk.block g Kq Mf)];exact hc
theorem Rd.below {B0:Nat} {w w':World} {R:Nat} {st:Option (List UInt8)} (h:Rd B0 w R st) (hk:Below w.heap.size w w'):Rd B0 w' R st:=by
 obtain⟨a,n,cap,hb,l,hB,hl,hs⟩:=h;exact⟨a,n,cap,hb.below hk hb.lt,l,hB,hl.below hk,hs⟩
theorem Rd.keeps {B0:Nat} {w w':World} {R:Nat} {st:Option (List UInt8)} {S:Nat ->Prop} (h:Rd B0 w R st) (hk:dS S w w') (hR:¬ S R) (hS:∀i,S i ->B0 <=i):Rd B0 w' R st:=by
 obtain⟨a,n,cap,hb,l,hB,⟨a',KE,hv,h1,h2,h3⟩,hs⟩:=h;injection hv with e1 e2 e3;subst e1 e2 e3;refine⟨a,_,cap,hb.keeps hk hR,l,hB,⟨a,cap,rfl,h1,h2,fun i x hx=>?_⟩,hs⟩;obtain⟨b,off,ha,hc⟩:=h3 i x hx;refine⟨b,off,ha,?_⟩;have Kq:=aS w _ hc;have KK:b < B0:=hB (by rintro rfl;simp at hx) _ ha;rw [bg (w:=w) (a:=⟨b,off+i,none⟩) (hk.block b Kq (fun h=>by have:=hS b h;omega))];exact hc
theorem sA {w:World} {R:Nat} (i:Nat) (v:Value):dS (fun k=>k=R) w (w.setCell ⟨R,i,none⟩ v):=
 ⟨rfl,rfl,rfl,by simp,fun k _ hk=>cN w ⟨R,i,none⟩ v k hk⟩
def If (B0 R:Nat) (st:Option (List UInt8)) (w:World) (e:Ending) (w':World):Prop:=
 e= .returned (.int .i64 (fE st).1)/\Rd B0 w' R (fE st).2/\dS (fun k=>k=R) w w'
def Ik (B0 R:Nat) (st:Option (List UInt8)) (w:World) (e:Ending) (w':World):Prop:=
 e= .returned (.int .i64 (ns st).1)/\Rd B0 w' R (ns st).2/\dS (fun k=>k=R) w w'
theorem jT (B0 R:Nat) (st:Option (List UInt8)) (w:World) (hr:Rd B0 w R st):Calls prog 118 #[.pointer (some ⟨R,0,none⟩)] w (If B0 R st w):=by
 obtain⟨a,n,cap,KD,l,hB0,hl,KI⟩:=hr;obtain⟨a',KE,hv,h1,h2,_⟩:=id hl;injection hv with e1 e2 e3;subst e1 e2 e3;unfold maxLen at h2;have hRl:=KD.lt;have c0:w.cell? ⟨R,0,none⟩=some (.slice a l.length cap):=KD.cell 0;have c1:w.cell? ⟨R,1,none⟩=some (.bool st.isNone):=KD.cell 1;have LA:=V KD;have HL:=V hl;have HS:=V KI;have OL:=V hB0;clear KD hl KI hB0;cases st with
 | none=>
  go_enter func118,ntmps118;go_wp2_with fail;refine(uJ _ l 62 _ HL.out (by omega) (by omega)).mono ?_;rintro x w1 ⟨rfl,hb⟩;have KD:=LA.out.below hb hRl;have hl:=HL.out.below hb;have z0:=KD.free 0;have z1:=KD.free 1;have c0:w1.cell? ⟨R,0,none⟩=some (.slice a l.length cap):=KD.cell 0;have c1:w1.cell? ⟨R,1,none⟩=some (.bool true):=KD.cell 1;have MP:=V KD;have PX:=V hl;clear KD hl;go_wp2_with fail;go_ret;have Kw:=MP.out.set 1 (.bool true);refine⟨rfl,⟨a,l.length,cap,by have h:=Kw;simp at h;exact h,l,OL.out,PX.out.off MP.out (sA _ _),fun l' h=>by cases h⟩,(dS.dV hb).trans (sA _ _) (fun i h=> .inl h)⟩
 | some l0=>
  obtain rfl:=HS.out l0 rfl;by_cases hu:(ia 62 l0).2.2=0
  ·obtain⟨u,r,hu1,Qv,KX⟩:=rK hu
   obtain⟨a3,LU,PY,hi3,hi4⟩:=ow Qv a cap;have hle:=cW List.length Qv;rw [ah]at hle;have hle2:(eL u).length <=l0.length:=by omega
   have HI3:=V hi3;have HR:=V (show fE (some l0)=(u,some r)by simp only [fE,KX,cY,Prod.mk.injEq,true_and,aX];rw [Qv];exact da);have HI4:=V hi4;have Mg:=V Qv;clear hi3 hi4 hu hle Qv;go_enter func118,ntmps118;go_wp2_with fail;refine(uJ _ l0 62 _ HL.out (by omega) (by omega)).mono ?_;rintro x w1 ⟨rfl,hb⟩;rw [KX];have KD:=LA.out.below hb hRl;have hl:=HL.out.below hb;have z0:=KD.free 0;have z1:=KD.free 1;have c0:w1.cell? ⟨R,0,none⟩=some (.slice a l0.length cap):=KD.cell 0;have c1:w1.cell? ⟨R,1,none⟩=some (.bool false):=KD.cell 1;have MP:=V KD;have PX:=V hl;clear KD hl KX;go_wp2_with fail;go_ret;have Kw:=(MP.out.set 1 (.bool false)).set 0 (.slice a3 r.length LU);have Mt:dS (fun k=>k=R) w1 ((w1.setCell ⟨R,1,none⟩ (.bool false)).setCell ⟨R,0,none⟩ (.slice a3 r.length LU)):=(sA 1 _).trans (sA 0 _) (fun i h=> .inl h);refine⟨by rw [HR.out];rfl,?_,(dS.dV hb).trans Mt (fun i h=> .inl h)⟩;rw [HR.out];exact⟨a3,r.length,LU,by simpa using Kw,r,fun Mf ad h=>(by obtain⟨ad0,g1,g2⟩:=HI4.out ad h;rw [g2];exact OL.out (by rw [Mg.out];intro g;exact Mf (List.append_eq_nil_iff.1 g).2) _ g1),(HI3.out _ PX.out).off MP.out Mt,fun l' h=>by injection h with h;exact h.symm⟩
  ·have HR:=V (show fE (some l0)=(0,none)by simp only [fE];rw [aC hu])
   obtain⟨x,k,err,hr⟩:∃x k err,ia 62 l0=(x,k,err):=⟨_,_,_,rfl⟩;have f1:(err !=0)=true:=fc (fun h=>hu (by rw [hr];exact h));clear hu;go_enter func118,ntmps118;go_wp2_with fail;refine(uJ _ l0 62 _ HL.out (by omega) (by omega)).mono ?_;rintro x w1 ⟨rfl,hb⟩;rw [hr];have KD:=LA.out.below hb hRl;have hl:=HL.out.below hb;have z0:=KD.free 0;have z1:=KD.free 1;have c0:w1.cell? ⟨R,0,none⟩=some (.slice a l0.length cap):=KD.cell 0;have c1:w1.cell? ⟨R,1,none⟩=some (.bool false):=KD.cell 1;have MP:=V KD;have PX:=V hl;clear KD hl hr;go_wp2_with fail;go_ret;have Kw:=MP.out.set 1 (.bool true);refine⟨by rw [HR.out];rfl,?_,(dS.dV hb).trans (sA _ _) (fun i h=> .inl h)⟩;rw [HR.out];exact⟨a,l0.length,cap,by simpa using Kw,l0,OL.out,PX.out.off MP.out (sA _ _),fun l' h=>by cases h⟩
theorem Dz (B0 R:Nat) (st:Option (List UInt8)) (w:World) (hr:Rd B0 w R st):Calls prog 234 #[.pointer (some ⟨R,0,none⟩)] w (Ik B0 R st w):=by
 obtain⟨a,n,cap,KD,l,hB0,hl,KI⟩:=hr;obtain⟨a',KE,hv,h1,h2,_⟩:=id hl;injection hv with e1 e2 e3;subst e1 e2 e3;unfold maxLen at h2;have hRl:=KD.lt;have c0:w.cell? ⟨R,0,none⟩=some (.slice a l.length cap):=KD.cell 0;have c1:w.cell? ⟨R,1,none⟩=some (.bool st.isNone):=KD.cell 1;have LA:=V KD;have HL:=V hl;have HS:=V KI;have OL:=V hB0;clear KD hl KI hB0;cases st with
 | none=>
  go_enter func234,ntmps234;go_wp2_with fail;refine(B9 _ l 64 _ HL.out (by omega) (by omega)).mono ?_;rintro x w1 ⟨rfl,hb⟩;have KD:=LA.out.below hb hRl;have hl:=HL.out.below hb;have z0:=KD.free 0;have z1:=KD.free 1;have c0:w1.cell? ⟨R,0,none⟩=some (.slice a l.length cap):=KD.cell 0;have c1:w1.cell? ⟨R,1,none⟩=some (.bool true):=KD.cell 1;have MP:=V KD;have PX:=V hl;clear KD hl;go_wp2_with fail;go_ret;have Kw:=MP.out.set 1 (.bool true);refine⟨rfl,⟨a,l.length,cap,by have h:=Kw;simp at h;exact h,l,OL.out,PX.out.off MP.out (sA _ _),fun l' h=>by cases h⟩,(dS.dV hb).trans (sA _ _) (fun i h=> .inl h)⟩
 | some l0=>
  obtain rfl:=HS.out l0 rfl;by_cases hu:(jo 64 l0).2.2=0
  ·obtain⟨u,r,hu1,Qv,KX⟩:=wO hu
   obtain⟨a3,LU,PY,hi3,hi4⟩:=ow Qv a cap;have hle:=cW List.length Qv;rw [ah]at hle;have hle2:(ib u).length <=l0.length:=by omega
   have HI3:=V hi3;have HR:=V (show ns (some l0)=(u,some r)by simp only [ns,KX,cY,Prod.mk.injEq,true_and,aX];rw [Qv];exact da);have HI4:=V hi4;have Mg:=V Qv;clear hi3 hi4 hu hle Qv;go_enter func234,ntmps234;go_wp2_with fail;refine(B9 _ l0 64 _ HL.out (by omega) (by omega)).mono ?_;rintro x w1 ⟨rfl,hb⟩;rw [KX];have KD:=LA.out.below hb hRl;have hl:=HL.out.below hb;have z0:=KD.free 0;have z1:=KD.free 1;have c0:w1.cell? ⟨R,0,none⟩=some (.slice a l0.length cap):=KD.cell 0;have c1:w1.cell? ⟨R,1,none⟩=some (.bool false):=KD.cell 1;have MP:=V KD;have PX:=V hl;clear KD hl KX;go_wp2_with fail;go_ret;have Kw:=(MP.out.set 1 (.bool false)).set 0 (.slice a3 r.length LU);have Mt:dS (fun k=>k=R) w1 ((w1.setCell ⟨R,1,none⟩ (.bool false)).setCell ⟨R,0,none⟩ (.slice a3 r.length LU)):=(sA 1 _).trans (sA 0 _) (fun i h=> .inl h);refine⟨by rw [HR.out];rfl,?_,(dS.dV hb).trans Mt (fun i h=> .inl h)⟩;rw [HR.out];exact⟨a3,r.length,LU,by simpa using Kw,r,fun Mf ad h=>(by obtain⟨ad0,g1,g2⟩:=HI4.out ad h;rw [g2];exact OL.out (by rw [Mg.out];intro g;exact Mf (List.append_eq_nil_iff.1 g).2) _ g1),(HI3.out _ PX.out).off MP.out Mt,fun l' h=>by injection h with h;exact h.symm⟩
  ·have HR:=V (show ns (some l0)=(0,none)by simp only [ns];rw [aC hu])
   obtain⟨x,k,err,hr⟩:∃x k err,jo 64 l0=(x,k,err):=⟨_,_,_,rfl⟩;have f1:(err !=0)=true:=fc (fun h=>hu (by rw [hr];exact h));clear hu;go_enter func234,ntmps234;go_wp2_with fail;refine(B9 _ l0 64 _ HL.out (by omega) (by omega)).mono ?_;rintro x w1 ⟨rfl,hb⟩;rw [hr];have KD:=LA.out.below hb hRl;have hl:=HL.out.below hb;have z0:=KD.free 0;have z1:=KD.free 1;have c0:w1.cell? ⟨R,0,none⟩=some (.slice a l0.length cap):=KD.cell 0;have c1:w1.cell? ⟨R,1,none⟩=some (.bool false):=KD.cell 1;have MP:=V KD;have PX:=V hl;clear KD hl hr;go_wp2_with fail;go_ret;have Kw:=MP.out.set 1 (.bool true);refine⟨by rw [HR.out];rfl,?_,(dS.dV hb).trans (sA _ _) (fun i h=> .inl h)⟩;rw [HR.out];exact⟨a,l0.length,cap,by simpa using Kw,l0,OL.out,PX.out.off MP.out (sA _ _),fun l' h=>by cases h⟩
def pK:Nat ->Option (List UInt8) ->List fb × Option (List UInt8)
 | 0,st=>([],st)
 | _+1,none=>([],none)
 | n+1,some l=>(⟨(fE (some l)).1,(ns (fE (some l)).2).1⟩::(pK n (ns (fE (some l)).2).2).1,(pK n (ns (fE (some l)).2).2).2)
def iR (st:Option (List UInt8)):List fb × Option (List UInt8):=pK (fE st).1 (fE st).2
theorem AE (n:Nat):pK n none=([],none):=by cases n <;>rfl
theorem vX:∀(l:List fb) (r:List UInt8),(∀v∈l,v.may/\v.ok) ->pK l.length (some ((l.map qC).flatten++r))=(l,some r)
 | [],r,_=>rfl
 | v::l,r,h=>by
  obtain⟨hm,hk⟩:=h v (by simp);have h0:0 <=v.kind/\v.kind <=2:=by rcases hm with g | g <;>omega
  have e1:((v::l).map qC).flatten++r=eL v.kind.toNat++(ib v.n++((l.map qC).flatten++r)):=by simp [qC]
  have e2:((v.kind.toNat:Nat):Int)=v.kind:=by omega
  rw [e1,aI,pK,kb _ _ (by omega)];simp only [FI v.n _ hk.2.1 hk.2.2,vX l r (fun x hx=>h x (by simp [hx])),e2]
theorem wH (l:List fb) (r:List UInt8) (h:∀v∈l,v.may/\v.ok) (hl:l.length <=1000000):iR (some (jE l++r))=(l,some r):=by
 rw [iR,jE,aP,kb _ _ (by omega)];exact vX l r h
def Gm (B0 Rb:Nat) (st:Option (List UInt8)) (w:World) (e:Ending) (w':World):Prop:=
 ∃v,e= .returned v/\dR 42 2 gg w' w.heap.size v (iR st).1/\(∀x∈(iR st).1,x.ok)/\(iR st).1.length+n4 (iR st).2 <=n4 st/\Rd B0 w' Rb (iR st).2/\dS (fun k=>k=Rb) w w'
def IW (B0 Rb:Nat) (GG:Option (List UInt8)) (w w':World) (v:Value) (acc:List fb) (n:Nat) (st:Option (List UInt8)):Prop:=
 iR GG=(acc++(pK n st).1,(pK n st).2)/\dR 42 2 gg w' w.heap.size v acc/\(∀x∈acc,x.ok)/\acc.length+n4 st <=n4 GG/\Rd B0 w' Rb st/\dS (fun k=>k=Rb) w w'/\n < 4611686018427387904
theorem kZ:(prog.info? 42).map (fun i=>(i.zero,i.size,i.bytes))=some (some (.agg #[.int .i64 0, .int .i64 0]),2,16):=by kernel_rfl
theorem vD (B0 Rb:Nat) (st:Option (List UInt8)) (w:World) (hr:Rd B0 w Rb st) (hl:n4 st <=500000) (hB0:B0 <=w.heap.size):Calls prog 117 #[.pointer (some ⟨Rb,0,none⟩)] w (Gm B0 Rb st w):=by
 have hR:Rb < w.heap.size:=by obtain⟨_,_,_,hb,_,_⟩:=hr;exact hb.lt
 go_enter func117,ntmps117;go_wp2_with fail;refine(jT B0 Rb st w hr).mono ?_;rintro x w1 ⟨rfl,OT,LH⟩;go_wp2_with fail;refine ez (fun a' w'=>∃(v:Value) (acc:List fb) (n:Nat) (s:Option (List UInt8)),a'=fr (.pointer (some ⟨Rb,0,none⟩)::gs a' 1 2 (v:: .int .i64 n::gs a' 5 22 []))/\IW B0 Rb st w w' v acc n s) (fun a' _=>(intOf (a'.tmps.getD 4 undef)).toNat) ?_ ?_
 ·exact⟨_,[],(fE st).1,(fE st).2,rfl,by simp [iR],dR.nil _ _,by simp,by have:=mS st;simpa using this,OT,LH,lE st⟩
 ·clear LH OT
  rintro R a' w1 ⟨v,acc,n,s,Kk,hJ⟩ HR;dsimp only [fr,gs]at Kk;generalize slot a'=f at Kk;subst Kk;obtain⟨hv,ho,Kt,hlen,Le,hk,hn⟩:=hJ;have KQ:=V Le;obtain⟨ar,nr,OU,KD,_⟩:=Le;have c1:w1.cell? ⟨Rb,1,none⟩=some (.bool s.isNone):=KD.cell 1;have HV:=V hv;have Lu:=V Kt;have Lf:=hk.size;clear hv Kt KD;rcases aY n with LP | LP
  ·subst LP
   go_wp2_with fail;go_ret;have h1:=HV.out;rw [pK,bW]at h1;refine⟨v,rfl,?_,?_,?_,?_,hk⟩
   ·rw [h1];exact ho
   ·rw [h1];exact Lu.out
   ·rw [h1];exact hlen
   ·rw [h1];exact KQ.out
  have f0:decide ((0:Int) < (n:Int))=true:=az (by omega);cases s with
  | none=>
   have c1:w1.cell? ⟨Rb,1,none⟩=some (.bool true):=c1;go_wp2_with fail;go_ret;have h1:=HV.out;rw [AE,bW]at h1;refine⟨v,rfl,?_,?_,?_,?_,hk⟩
   ·rw [h1];exact ho
   ·rw [h1];exact Lu.out
   ·rw [h1];exact hlen
   ·rw [h1];exact KQ.out
  | some l=>
   have c1:w1.cell? ⟨Rb,1,none⟩=some (.bool false):=c1;have Ln:∀i,ey v i ->¬ i=Rb:=fun i hi=>by have:=(eo ho hi).1;omega
   have LV:=sI l;have Ku:=Gb (fE (some l)).2;have hn1:=lE (some l);obtain⟨Ov,MQ⟩:=F4 (fE (some l)).2;have MB:acc.length <=500000:=by omega
   have HS:=V (show acc.length+1+n4 (ns (fE (some l)).2).2 <=n4 st by omega);have PN:=V Ln;clear LV Ku hlen Ln;go_wp2_with fail;refine(jT B0 Rb (some l) w1 KQ.out).mono ?_;rintro x w2 ⟨rfl,Np,Kp⟩;have Lv:=V Np;clear KQ Np c1;go_wp2_with fail;refine(Dz B0 Rb _ w2 Lv.out).mono ?_;rintro x w3 ⟨rfl,PY,KS⟩;have PW:dS (fun k=>k=Rb) w1 w3:=Kp.trans KS (fun i h=> .inl h);have Lq:dR 42 2 gg w3 w.heap.size v acc:=ho.keeps PW PN.out;have NN:=PW.size;obtain⟨n',rfl⟩:∃n',n=n'+1:=⟨n - 1,by omega⟩;have Mu:=V PY;clear Lv PY Kp KS;generalize Mh:(fE (some l)).1=x0 at hn1;generalize hy0:(ns (fE (some l)).2).1=y0 at Ov MQ;have HX:=V Mh;have HY:=V hy0;clear Mh hy0;go_wp2_with (first | (at_builtin;refine Stop.out ?_));change wpList _ _ _ _ _ _;refine eQ w3 rfl _ _ 30 rfl _ 16 (by kernel_rfl) kZ rfl (by decide) (by decide) w.heap.size v acc rfl Lq ⟨x0,y0⟩ _ rfl rfl (lI _) rfl (by omega) (by omega) ?_;intro v4 w4 LZ N3 Mi;have hRd4:Rd B0 w4 Rb (ns (fE (some l)).2).2:=Mu.out.keeps N3 (fun h=>PN.out _ h rfl) (fun i hi=>by have:=(eo Lq hi).1;omega);have hk14:dS (fun k=>k=Rb) w w4:=(hk.trans PW (fun i h=> .inl h)).trans N3 (fun i h=> .inr (eo Lq h).1);clear N3 Mi PW hk ho Lq;go_wp2_with fail;refine HR.out _ _ ⟨v4,acc++[⟨x0,y0⟩],n',(ns (fE (some l)).2).2,rfl,?_,LZ,?_,?_,hRd4,hk14,by omega⟩ ?_
   ·rw [HV.out,pK,HX.out,HY.out]
    simp
   ·intro z hz
    rcases bA.1 hz with h | h
    ·exact Lu.out z h
    ·obtain rfl:=aV.1 h
     exact⟨⟨by show(-9223372036854775808:Int) <=(x0:Int);omega,by show(x0:Int) <=9223372036854775807;omega⟩,Ov,MQ⟩
   ·rw [ah]
    exact HS.out
   ·simp [intOf]
structure kK where
 pos:Int
 eJ:Int
deriving DecidableEq
def kl (l:kK):List Value:=[.int .i64 l.pos, .int .i64 l.eJ]
theorem mQ (l:kK):(kl l).length=2:=rfl
theorem yL (l:kK):∀u∈kl l,u.oneCell'=true:=by
 intro u hu;simp only [kl,bJ,bO,cS]at hu;rcases hu with rfl | rfl <;>rfl
structure eW where
 fn:Int
 pc:Int
 locals:List fb
 base:Int
 labels:List kK
deriving DecidableEq
def lS (x:eW × Value × Value):List Value:=[.int .i64 x.1.fn, .int .i64 x.1.pc,x.2.1, .int .i64 x.1.base,x.2.2]
theorem ix (x:eW × Value × Value):(lS x).length=5:=rfl
structure gI where
 dX:List fb
 ef:List eW
 asks:Int
deriving DecidableEq
def iQ (n:Int):Prop:= -9223372036854775808 <=n/\n <=9223372036854775807
def kK.ok (l:kK):Prop:=iQ l.pos/\iQ l.eJ
def eW.ok (f:eW):Prop:=iQ f.fn/\iQ f.pc/\iQ f.base/\(∀v∈f.locals,v.ok)/\∀l∈f.labels,l.ok
def gI.ok (s:gI):Prop:=iQ s.asks/\(∀v∈s.dX,v.ok)/\∀f∈s.ef,f.ok
def fU (w:World) (v:Value) (l:List eW):Prop:=
 ∃us:List (Value × Value),us.length=l.length/\ee 5 lS w v (l.zip us)/\
  (∀(i:Nat) (f:eW) (u:Value × Value),l[i]?=some f ->us[i]?=some u ->ee 2 gg w u.1 f.locals/\ee 2 kl w u.2 f.labels)/\∀f∈l,f.ok
theorem fU.below {w w':World} {v:Value} {l:List eW} (h:fU w v l) (hb:Below w.heap.size w w'):fU w' v l:=by
 obtain⟨us,h1,h2,h3,h4⟩:=h;exact⟨us,h1,h2.below hb,fun i c u hc hu=>⟨(h3 i c u hc hu).1.below hb,(h3 i c u hc hu).2.below hb⟩,h4⟩
theorem fU.nil (w:World):fU w (.slice none 0 0) []:=⟨[],rfl,ee.nil w,by simp,by simp⟩
theorem fU.slice {w:World} {v:Value} {l:List eW} (h:fU w v l):∃a cap,v= .slice a l.length cap/\l.length <=cap/\cap <=9223372036854775807:=by
 obtain⟨us,h1,⟨a,cap,hv,h2,h3,_⟩,_⟩:=h;have:(l.zip us).length=l.length:=by rw [bI,h1,bY]
 rw [this]at hv h2;exact⟨a,cap,hv,h2,h3⟩
theorem fU.get {w:World} {a:Option Addr} {n cap:Nat} {l:List eW} (h:fU w (.slice a n cap) l) {k:Nat} {f:eW} (hf:l[k]?=some f):∃b off u x,a=some ⟨b,off,none⟩/\b < w.heap.size/\
  (w.cell? ⟨b,off+k*5,none⟩=some (.int .i64 f.fn)/\w.cell? ⟨b,off+k*5+1,none⟩=some (.int .i64 f.pc)/\w.cell? ⟨b,off+k*5+2,none⟩=some u/\w.cell? ⟨b,off+k*5+3,none⟩=some (.int .i64 f.base)/\
   w.cell? ⟨b,off+k*5+4,none⟩=some x)/\ee 2 gg w u f.locals/\ee 2 kl w x f.labels/\f.ok:=by
 obtain⟨us,h1,⟨a',KE,hv,_,_,h2⟩,h3,h4⟩:=h;injection hv with e1 e2 e3;subst e1;have hk:k < us.length:=by rw [h1];exact(aL.1 hf).1
 have hu:=aq hk;have hz:(l.zip us)[k]?=some (f,us[k]):=(cK (z:=(f,us[k]))).2 ⟨hf,hu⟩;obtain⟨b,off,ha,Kq,K6⟩:=h2 k _ hz;obtain⟨g1,g2⟩:=h3 k f _ hf hu;exact⟨b,off,us[k].1,us[k].2,ha,Kq,⟨K6 0 _ rfl,K6 1 _ rfl,K6 2 _ rfl,K6 3 _ rfl,K6 4 _ rfl⟩,g1,g2,h4 f (aO hf)⟩
def jA (w:World) (uv uf:Value) (s:gI):Prop:=ee 2 gg w uv s.dX/\fU w uf s.ef/\s.ok
theorem jA.below {w w':World} {uv uf:Value} {s:gI} (h:jA w uv uf s) (hb:Below w.heap.size w w'):jA w' uv uf s:=⟨h.1.below hb,h.2.1.below hb,h.2.2⟩
def pn (n:Int):Bool:=decide (n < 0) || decide (10000 < n)
theorem kF {n:Int}:pn n=false↔0 <=n/\n <=10000:=by
 simp only [pn,dm,decide_eq_false_iff_not];omega
theorem vZ {n:Int}:pn n=true↔¬ (0 <=n/\n <=10000):=by
 rw [<- kF];simp
def kK.may (l:kK):Prop:=(0 <=l.pos/\l.pos <=10000)/\(0 <=l.eJ/\l.eJ <=10000)
instance (l:kK):Decidable l.may:=by unfold kK.may;infer_instance
def eW.may (f:eW):Prop:=
 (∀l∈f.labels,l.may)/\f.labels.length <=40/\f.locals.length <=32/\(∀v∈f.locals,v.may)/\(0 <=f.fn/\f.fn <=10000)/\(0 <=f.pc/\f.pc <=10000)/\(0 <=f.base/\f.base <=10000)
instance (f:eW):Decidable f.may:=by unfold eW.may;infer_instance
def gI.may (s:gI):Prop:=s.dX.length <=1000/\s.ef.length <=32/\ -1 <=s.asks/\s.asks <=10000/\(∀v∈s.dX,v.may)/\∀f∈s.ef,f.may
instance (s:gI):Decidable s.may:=by unfold gI.may;infer_instance
def oT (l:kK):List UInt8:=eL l.pos.toNat++eL l.eJ.toNat
def Bx (l:List kK):List UInt8:=eL l.length++(l.map oT).flatten
def oH (f:eW):List UInt8:=jE f.locals++eL f.fn.toNat++eL f.pc.toNat++eL f.base.toNat++Bx f.labels
def hH (l:List eW):List UInt8:=(l.map oH).flatten
def iM (s:gI):List UInt8:=jE s.dX++eL (s.asks+1).toNat++eL s.ef.length++hH s.ef
theorem ud:∀l:List kK,((l.map oT).flatten).length <=20*l.length
 | []=>by simp
 | e::l=>by
  have h1:=(eD e.pos.toNat).2;have h2:=(eD e.eJ.toNat).2;have h3:=ud l;simp only [bC,bS,ah,aI,oT]at*;omega
theorem Aj {f:eW} (hm:f.may) (ho:f.ok):(oH f).length <=1600:=by
 have h0:=(eD f.fn.toNat).2;have h1:=(eD f.pc.toNat).2;have h2:=(eD f.base.toNat).2;have h3:=(eD f.locals.length).2;have h4:=nQ f.locals ho.2.2.2.1;have h5:=(eD f.labels.length).2;have h6:=ud f.labels;have h7:=hm.2.1;have h8:=hm.2.2.1;simp only [oH,jE,Bx,ah];omega
theorem ph:∀l:List eW,(∀f∈l,f.may/\f.ok) ->(hH l).length <=1600*l.length
 | [],_=>by simp [hH]
 | f::l,h=>by
  have h1:=Aj (h f (by simp)).1 (h f (by simp)).2;have h2:=ph l (fun x hx=>h x (by simp [hx]));simp only [hH,bC,bS,ah,aI]at*;omega
theorem yp (a b:List eW):hH (a++b)=hH a++hH b:=by simp [hH]
def nN:Nat ->Option (List UInt8) ->List kK × Option (List UInt8)
 | 0,st=>([],st)
 | _+1,none=>([],none)
 | n+1,some l=>(⟨(fE (some l)).1,(fE (fE (some l)).2).1⟩::(nN n (fE (fE (some l)).2).2).1,(nN n (fE (fE (some l)).2).2).2)
theorem Aa (n:Nat):nN n none=([],none):=by cases n <;>rfl
def ot (st:Option (List UInt8)):eW × Option (List UInt8):=
 (⟨(fE (iR st).2).1,(fE (fE (iR st).2).2).1,(iR st).1,(fE (fE (fE (iR st).2).2).2).1,
  (nN (fE (fE (fE (fE (iR st).2).2).2).2).1 (fE (fE (fE (fE (iR st).2).2).2).2).2).1⟩,
  (nN (fE (fE (fE (fE (iR st).2).2).2).2).1 (fE (fE (fE (fE (iR st).2).2).2).2).2).2)
def jK:Nat ->Option (List UInt8) ->List eW × Option (List UInt8)
 | 0,st=>([],st)
 | _+1,none=>([],none)
 | n+1,some l=>((ot (some l)).1::(jK n (ot (some l)).2).1,(jK n (ot (some l)).2).2)
theorem xv (n:Nat):jK n none=([],none):=by cases n <;>rfl
def qf (st:Option (List UInt8)):gI × Option (List UInt8):=
 (⟨(iR st).1,(jK (fE (fE (iR st).2).2).1 (fE (fE (iR st).2).2).2).1,(fE (iR st).2).1 - 1⟩,(jK (fE (fE (iR st).2).2).1 (fE (fE (iR st).2).2).2).2)
theorem wG:∀(l:List kK) (r:List UInt8),(∀e∈l,e.may) ->nN l.length (some ((l.map oT).flatten++r))=(l,some r)
 | [],r,_=>rfl
 | e::l,r,h=>by
  obtain⟨⟨h0,h1⟩,h2,h3⟩:=h e (by simp);have e1:((e::l).map oT).flatten++r=eL e.pos.toNat++(eL e.eJ.toNat++((l.map oT).flatten++r)):=by simp [oT]
  have g1:((e.pos.toNat:Nat):Int)=e.pos:=by omega
  have g2:((e.eJ.toNat:Nat):Int)=e.eJ:=by omega
  rw [e1,aI,nN,kb _ _ (by omega)];simp only [kb e.eJ.toNat _ (by omega),wG l r (fun x hx=>h x (by simp [hx])),g1,g2]
theorem Au (f:eW) (r:List UInt8) (hm:f.may) (ho:f.ok):ot (some (oH f++r))=(f,some r):=by
 obtain⟨m1,m2,m3,m4,⟨m5,m6⟩,⟨m7,m8⟩,m9,m10⟩:=hm;have e1:oH f++r=jE f.locals++(eL f.fn.toNat++(eL f.pc.toNat++(eL f.base.toNat++(eL f.labels.length++((f.labels.map oT).flatten++r))))):=by simp [oH,Bx]
 have g1:((f.fn.toNat:Nat):Int)=f.fn:=by omega
 have g2:((f.pc.toNat:Nat):Int)=f.pc:=by omega
 have g3:((f.base.toNat:Nat):Int)=f.base:=by omega
 have h0:∀r,iR (some (jE f.locals++r))=(f.locals,some r):=fun r=>wH _ r (fun v hv=>⟨m4 v hv,ho.2.2.2.1 v hv⟩) (by omega);have h1:∀r,fE (some (eL f.fn.toNat++r))=(f.fn.toNat,some r):=fun r=>kb _ r (by omega);have h2:∀r,fE (some (eL f.pc.toNat++r))=(f.pc.toNat,some r):=fun r=>kb _ r (by omega);have h3:∀r,fE (some (eL f.base.toNat++r))=(f.base.toNat,some r):=fun r=>kb _ r (by omega);have h4:∀r,fE (some (eL f.labels.length++r))=(f.labels.length,some r):=fun r=>kb _ r (by omega);have h5:nN f.labels.length (some ((f.labels.map oT).flatten++r))=(f.labels,some r):=wG _ r m1;rw [e1,ot];simp only [h0,h1,h2,h3,h4,h5,g1,g2,g3]
theorem ss:∀(l:List eW) (r:List UInt8),(∀f∈l,f.may/\f.ok) ->jK l.length (some (hH l++r))=(l,some r)
 | [],r,_=>rfl
 | f::l,r,h=>by
  obtain⟨hm,hk⟩:=h f (by simp);have e1:hH (f::l)++r=oH f++(hH l++r):=by simp [hH]
  rw [e1,aI,jK,Au f _ hm hk];simp only [ss l r (fun x hx=>h x (by simp [hx]))]
theorem mM (s:gI) (hm:s.may) (ho:s.ok):qf (some (iM s))=(s,some []):=by
 obtain⟨m1,m2,m3,m4,m5,m6⟩:=hm;have e1:iM s=jE s.dX++(eL (s.asks+1).toNat++(eL s.ef.length++(hH s.ef++[]))):=by simp [iM]
 have g1:(((s.asks+1).toNat:Nat):Int) - 1=s.asks:=by omega
 have h0:∀r,iR (some (jE s.dX++r))=(s.dX,some r):=fun r=>wH _ r (fun v hv=>⟨m5 v hv,ho.2.1 v hv⟩) (by omega);have h1:∀r,fE (some (eL (s.asks+1).toNat++r))=((s.asks+1).toNat,some r):=fun r=>kb _ r (by omega);have h2:∀r,fE (some (eL s.ef.length++r))=(s.ef.length,some r):=fun r=>kb _ r (by omega);have h3:jK s.ef.length (some (hH s.ef++[]))=(s.ef,some []):=ss _ _ (fun f hf=>⟨m6 f hf,ho.2.2 f hf⟩);rw [e1,qf];simp only [h0,h1,h2,h3,g1]
theorem Bp {a b:gI} (ha:a.may) (hao:a.ok) (hb:b.may) (K5:b.ok) (h:iM a=iM b):a=b:=by
 have h1:=mM a ha hao;have h2:=mM b hb K5;rw [h,h2]at h1;injection h1 with h1 _;exact h1.symm
theorem vG (s:gI):iM s≠[]:=by
 intro h;simp only [iM,jE,List.append_eq_nil_iff]at h;have:=(eD s.dX.length).1;rw [h.1.1.1.1]at this;simp at this
theorem Bj {s:gI} (h:s.may) (ho:s.ok):1 <=(iM s).length/\(iM s).length <=100000:=by
 have g1:=eD s.dX.length;have g2:=nQ s.dX ho.2.1;have g3:=(eD (s.asks+1).toNat).2;have g4:=(eD s.ef.length).2;have g5:=ph s.ef (fun f hf=>⟨h.2.2.2.2.2 f hf,ho.2.2 f hf⟩);have g6:=h.1;have g7:=h.2.1;simp only [iM,jE,ah];omega
theorem uU (v:fb) (w:World):Calls prog 238 #[.agg #[.int .i64 v.kind, .int .i64 v.n]] w (et (!decide v.may) w):=by
 go_enter func238,ntmps238;go_wp2_with fail;refine(ni v _).mono ?_;rintro e w2 ⟨rfl,hb⟩;replace hb:=((an w.heap.size w).alloc (ag _) _).trans (hb.mono (by simp));go_wp2_with fail;go_ret;exact⟨rfl,hb⟩
def tf (v:fb):Bool:= !decide v.may
theorem Bl (v:Value) (l:List fb) (w:World) (hl:ee 2 gg w v l):
  Calls prog 283 #[v, .func (.func 238) #[] #[]] w (jP tf l w):=by
 have HI:=V hl;obtain⟨a,cap,rfl,h1,h2,_⟩:=hl;unfold maxLen at h2;go_enter func283,ntmps283;go_wp2_with fail;refine ez (fun a' w'=>∃(k:Nat),a'=fr (.slice a l.length cap:: .func (.func 238) #[] #[]::gs a' 2 5 (.int .i64 l.length:: .int .i64 k::gs a' 9 10 []))/\pI tf l w w' k) (fun a' _=>(l.length - (intOf (a'.tmps.getD 8 undef)).toNat)) ?_ ?_
 ·exact⟨0,rfl,by omega,fun i hi=>by omega,an _ _⟩
 ·skip
  rintro R a' w1 ⟨k,Kk,hJ⟩ HR;dsimp only [fr,gs]at Kk;generalize slot a'=f at Kk;subst Kk;obtain⟨hk,hm,hb⟩:=hJ;have Lj:=V hm;clear hm;by_cases Lg:k < l.length
  ·obtain⟨e,he⟩:∃e,l[k]?=some e:=⟨_,aq Lg⟩
   obtain⟨a',KE,hv,_,_,Kh⟩:=HI.out.below (hb.mono (ag _));injection hv with e1 e2 e3;subst e1 e3;obtain⟨b,off,rfl,Kq,hc⟩:=Kh k e he;have c0:=hc 0 _ rfl;have c1:=hc 1 _ rfl;rw [aK]at c0;have HE:=V he;clear Kh e2 he hc;have Ks:=uU e w1;cases hq:tf e
   all_goals
    rw [show(!decide e.may)=tf e from rfl,hq]at Ks;have HQ:=V hq;clear hq;go_wp2_with fail;refine Ks.mono ?_;rintro x w2 ⟨rfl,Kl⟩;replace hb:=dW hb Kl;clear Ks c0 c1 Kl;go_wp2_with fail
   ·refine HR.out _ _ ⟨k+1,rfl,by omega,?_,hb⟩ ?_
    ·intro i hi d hd
     rcases bq i k with h | h
     ·exact Lj.out i h d hd
     ·obtain rfl:i=k:=by omega
      rw [HE.out]at hd;injection hd with hd;rw [<- hd];exact HQ.out
    ·simp [intOf]
     omega
   ·go_ret
    exact⟨by rw [ie HE.out HQ.out Lj.out];rfl,hb⟩
  ·obtain rfl:k=l.length:=by omega
   go_wp2_with fail;go_ret;exact⟨by rw [gL Lj.out];rfl,hb⟩
theorem AZ (v:Value) (l:List fb) (w:World) (hl:ee 2 gg w v l):
  Calls prog 237 #[v, .func (.func 238) #[] #[]] w (et (l.any tf) w):=by
 go_enter func237,ntmps237;go_wp2_with fail;refine(Bl v l _ hl).mono ?_;rintro x w2 ⟨rfl,hb⟩;go_wp2_with fail;go_ret;exact⟨by rw [<- iu];rfl,hb⟩
theorem uV (n:Int) (w:World):Calls prog 241 #[.int .i64 n] w (et (pn n) w):=by
 by_cases q0:n < 0
 ·have f0:decide (n < 0)=true:=az q0
  have HB:=V (show pn n=true by rw [pn,f0];rfl);go_enter func241,ntmps241;go_wp2_with fail;go_ret;exact⟨by rw [HB.out];rfl,an _ _⟩
 have f0:decide (n < 0)=false:=aA q0;by_cases q1:10000 < n
 ·have f1:decide (10000 < n)=true:=az q1
  have HB:=V (show pn n=true by rw [pn,f0,f1];rfl);go_enter func241,ntmps241;go_wp2_with fail;go_ret;exact⟨by rw [HB.out];rfl,an _ _⟩
 ·have f1:decide (10000 < n)=false:=aA q1
  have HB:=V (show pn n=false by rw [pn,f0,f1];rfl);go_enter func241,ntmps241;go_wp2_with fail;go_ret;exact⟨by rw [HB.out];rfl,an _ _⟩
def eZ (n:Int):List Value:=[.int .i64 n]
theorem Af (v:Value) (l:List Int) (w:World) (hl:ee 1 eZ w v l):
  Calls prog 100 #[v, .func (.func 241) #[] #[]] w (jP pn l w):=by
 have HI:=V hl;have hl':=hl;obtain⟨a,cap,rfl,h1,h2,_⟩:=hl';unfold maxLen at h2;clear hl;go_enter func100,ntmps100;go_wp2_with fail;refine ez (fun a' w'=>∃(k:Nat),a'=fr (.slice a l.length cap:: .func (.func 241) #[] #[]::gs a' 2 5 (.int .i64 l.length:: .int .i64 k::gs a' 9 10 []))/\pI pn l w w' k) (fun a' _=>(l.length - (intOf (a'.tmps.getD 8 undef)).toNat)) ?_ ?_
 ·exact⟨0,rfl,by omega,fun i hi=>by omega,an _ _⟩
 ·skip
  rintro R a' w1 ⟨k,Kk,hJ⟩ HR;dsimp only [fr,gs]at Kk;generalize slot a'=f at Kk;subst Kk;obtain⟨hk,hm,hb⟩:=hJ;have Lj:=V hm;clear hm;by_cases Lg:k < l.length;rotate_left
  ·obtain rfl:k=l.length:=by omega
   go_wp2_with fail;go_ret;exact⟨by rw [gL Lj.out];rfl,hb⟩
  obtain⟨e,he⟩:∃e,l[k]?=some e:=⟨_,aq Lg⟩;obtain⟨a',KE,hv,_,_,Kh⟩:=HI.out.below (hb.mono (ag _));injection hv with e1 e2 e3;subst e1 e3;obtain⟨b,off,rfl,Kq,hc⟩:=Kh k e he;have c0:=hc 0 _ rfl;rw [aK,bj]at c0;have HE:=V he;clear Kh e2 he hc;have Ks:=uV e w1;cases hq:pn e
  all_goals
   rw [hq]at Ks;have HQ:=V hq;clear hq;go_wp2_with fail;refine Ks.mono ?_;rintro x w2 ⟨rfl,Kl⟩;replace hb:=dW hb Kl;clear Ks Kl;go_wp2_with fail
  ·refine HR.out _ _ ⟨k+1,rfl,by omega,?_,hb⟩ ?_
   ·intro i hi d hd
    rcases bq i k with h | h
    ·exact Lj.out i h d hd
    ·obtain rfl:i=k:=by omega
     rw [HE.out]at hd;injection hd with hd;rw [<- hd];exact HQ.out
   ·simp [intOf]
    omega
  ·go_ret
   exact⟨by rw [ie HE.out HQ.out Lj.out];rfl,hb⟩
theorem zm (v:Value) (l:List Int) (w:World) (hl:ee 1 eZ w v l):
  Calls prog 63 #[v, .func (.func 241) #[] #[]] w (et (l.any pn) w):=by
 go_enter func63,ntmps63;go_wp2_with fail;refine(Af v l _ hl).mono ?_;rintro x w2 ⟨rfl,hb⟩;go_wp2_with fail;go_ret;exact⟨by rw [<- iu];rfl,hb⟩
theorem wE (v:Value) (l:List Int) (w:World) (hl:ee 1 eZ w v l):Calls prog 128 #[v] w (et (!l.any pn) w):=by
 go_enter func128,ntmps128;go_wp2_with fail;refine(zm v l _ hl).mono ?_;rintro x w2 ⟨rfl,hb⟩;go_wp2_with fail;go_ret;exact⟨rfl,hb⟩
theorem sY (v:Value) (l:List fb) (w:World) (hl:ee 2 gg w v l):Calls prog 123 #[v] w (et (!l.any tf) w):=by
 go_enter func123,ntmps123;go_wp2_with fail;refine(AZ v l _ hl).mono ?_;rintro x w2 ⟨rfl,hb⟩;go_wp2_with fail;go_ret;exact⟨rfl,hb⟩
theorem pD (w:World) (x y:Int) (t:TypeId):ee 1 eZ (w.alloc (.cells #[.int .i64 x, .int .i64 y] t)) (.slice (some ⟨w.heap.size,0,none⟩) 2 2) [x,y]:=by
 refine⟨_,2,rfl,ag _,by simp [maxLen],fun i z hz=>⟨w.heap.size,0,rfl,by simp,fun j v hv=>?_⟩⟩;rw [bP]
 match j,hv with
 | 0,hv=>
  simp [eZ]at hv;subst hv
  match i,hz with
  | 0,hz=>simp at hz;subst hz;rfl
  | 1,hz=>simp at hz;subst hz;rfl
  | i+2,hz=>simp at hz
 | j+1,hv=>simp [eZ]at hv
theorem Dg (w:World) (x y z:Int) (t:TypeId):ee 1 eZ (w.alloc (.cells #[.int .i64 x, .int .i64 y, .int .i64 z] t)) (.slice (some ⟨w.heap.size,0,none⟩) 3 3) [x,y,z]:=by
 refine⟨_,3,rfl,ag _,by simp [maxLen],fun i q hq=>⟨w.heap.size,0,rfl,by simp,fun j v hv=>?_⟩⟩;rw [bP]
 match j,hv with
 | 0,hv=>
  simp [eZ]at hv;subst hv
  match i,hq with
  | 0,hq=>simp at hq;subst hq;rfl
  | 1,hq=>simp at hq;subst hq;rfl
  | 2,hq=>simp at hq;subst hq;rfl
  | i+3,hq=>simp at hq
 | j+1,hv=>simp [eZ]at hv
def sD (l:kK):Bool:= !decide l.may
theorem zn (l:kK) (w:World):Calls prog 127 #[.agg #[.int .i64 l.pos, .int .i64 l.eJ]] w (et (sD l) w):=by
 have hd:([l.pos,l.eJ].any pn)=sD l:=by
  by_cases h:l.may
  ·rw [sD,az h]
   simp [kF.2 h.1,kF.2 h.2]
  ·rw [sD,aA h]
   by_cases h1:0 <=l.pos/\l.pos <=10000
   ·have h2:¬ (0 <=l.eJ/\l.eJ <=10000):=fun g=>h ⟨h1,g⟩
    simp [vZ.2 h2]
   ·simp [vZ.2 h1]
 have HD:=V hd;clear hd;go_enter func127,ntmps127;go_wp2_with fail;have hl:=pD (w.alloc (.cells #[.int .i64 l.pos, .int .i64 l.eJ] 46)) l.pos l.eJ 3;rw [aE]at hl;refine(wE _ _ _ hl).mono ?_;rintro x w2 ⟨rfl,hb⟩;rw [HD.out];have KF:Below w.heap.size w w2:=(((an w.heap.size w).alloc (ag _) _).alloc (by simp) _).trans (hb.mono (by simp;omega));clear hl hb;go_wp2_with fail;go_ret;exact⟨by simp,KF⟩
theorem z8 (v:Value) (l:List kK) (w:World) (hl:ee 2 kl w v l):
  Calls prog 240 #[v, .func (.func 127) #[] #[]] w (jP sD l w):=by
 have HI:=V hl;have hl':=hl;obtain⟨a,cap,rfl,h1,h2,_⟩:=hl';unfold maxLen at h2;clear hl;go_enter func240,ntmps240;go_wp2_with fail;refine ez (fun a' w'=>∃(k:Nat),a'=fr (.slice a l.length cap:: .func (.func 127) #[] #[]::gs a' 2 5 (.int .i64 l.length:: .int .i64 k::gs a' 9 10 []))/\pI sD l w w' k) (fun a' _=>(l.length - (intOf (a'.tmps.getD 8 undef)).toNat)) ?_ ?_
 ·exact⟨0,rfl,by omega,fun i hi=>by omega,an _ _⟩
 ·skip
  rintro R a' w1 ⟨k,Kk,hJ⟩ HR;dsimp only [fr,gs]at Kk;generalize slot a'=f at Kk;subst Kk;obtain⟨hk,hm,hb⟩:=hJ;have Lj:=V hm;clear hm;by_cases Lg:k < l.length;rotate_left
  ·obtain rfl:k=l.length:=by omega
   go_wp2_with fail;go_ret;exact⟨by rw [gL Lj.out];rfl,hb⟩
  obtain⟨e,he⟩:∃e,l[k]?=some e:=⟨_,aq Lg⟩;obtain⟨a',KE,hv,_,_,Kh⟩:=HI.out.below (hb.mono (ag _));injection hv with e1 e2 e3;subst e1 e3;obtain⟨b,off,rfl,Kq,hc⟩:=Kh k e he;have c0:=hc 0 _ rfl;have c1:=hc 1 _ rfl;rw [aK]at c0;have HE:=V he;clear Kh e2 he hc;have Ks:=zn e w1;cases hq:sD e
  all_goals
   rw [hq]at Ks;have HQ:=V hq;clear hq;go_wp2_with fail;refine Ks.mono ?_;rintro x w2 ⟨rfl,Kl⟩;replace hb:=dW hb Kl;clear Ks Kl;go_wp2_with fail
  ·refine HR.out _ _ ⟨k+1,rfl,by omega,?_,hb⟩ ?_
   ·intro i hi d hd
    rcases bq i k with h | h
    ·exact Lj.out i h d hd
    ·obtain rfl:i=k:=by omega
     rw [HE.out]at hd;injection hd with hd;rw [<- hd];exact HQ.out
   ·simp [intOf]
    omega
  ·go_ret
   exact⟨by rw [ie HE.out HQ.out Lj.out];rfl,hb⟩
theorem zk (v:Value) (l:List kK) (w:World) (hl:ee 2 kl w v l):
  Calls prog 126 #[v, .func (.func 127) #[] #[]] w (et (l.any sD) w):=by
 go_enter func126,ntmps126;go_wp2_with fail;refine(z8 v l _ hl).mono ?_;rintro x w2 ⟨rfl,hb⟩;go_wp2_with fail;go_ret;exact⟨by rw [<- iu];rfl,hb⟩
theorem eE.rF {w:World} {X:Nat} {t:TypeId} {x0 x1 x2 x3 x4:Value} (h:eE w X #[x0,x1,x2,x3,x4] t):
  w.cell? ⟨X,0,none⟩=some x0/\w.cell? ⟨X,1,none⟩=some x1/\w.cell? ⟨X,2,none⟩=some x2/\w.cell? ⟨X,3,none⟩=some x3/\w.cell? ⟨X,4,none⟩=some x4:=⟨h.cell 0,h.cell 1,h.cell 2,h.cell 3,h.cell 4⟩
theorem eE.three {w:World} {X:Nat} {t:TypeId} {x0 x1 x2:Value} (h:eE w X #[x0,x1,x2] t):
  w.cell? ⟨X,0,none⟩=some x0/\w.cell? ⟨X,1,none⟩=some x1/\w.cell? ⟨X,2,none⟩=some x2:=⟨h.cell 0,h.cell 1,h.cell 2⟩
def mZ (f:eW):Bool:= !decide f.may
theorem By (l:List fb):l.any tf=false↔∀v∈l,v.may:=by
 rw [dz]
 constructor
 ·intro h v hv
  have:=h v hv;simpa [tf] using this
 ·intro h v hv
  simpa [tf] using h v hv
theorem Gy (l:List kK):l.any sD=false↔∀v∈l,v.may:=by
 rw [dz]
 constructor
 ·intro h v hv
  have:=h v hv;simpa [sD] using this
 ·intro h v hv
  simpa [sD] using h v hv
theorem Gi (l:List eW):l.any mZ=false↔∀v∈l,v.may:=by
 rw [dz]
 constructor
 ·intro h v hv
  have:=h v hv;simpa [mZ] using this
 ·intro h v hv
  simpa [mZ] using h v hv
theorem vw (f:eW) (u x:Value) (w:World) (hu:ee 2 gg w u f.locals) (hx:ee 2 kl w x f.labels):
  Calls prog 125 #[.agg #[.int .i64 f.fn, .int .i64 f.pc,u, .int .i64 f.base,x]] w (et (mZ f) w):=by
 have HU:=V hu;have HV:=V hx;obtain⟨au,Kr,rfl,_,hcu,_⟩:=hu;obtain⟨ax,Lr,rfl,_,hcx,_⟩:=hx;unfold maxLen at hcu hcx;have hbad:∀b,(f.may ->b=false) ->(b=false ->f.may) ->mZ f=b:=by
  intro b h1 h2;by_cases h:f.may
  ·rw [mZ,az h,h1 h];rfl
  ·cases b
   ·exact absurd (h2 rfl) h
   ·rw [mZ,aA h];rfl
 have HBAD:=V (show ¬ f.may ->mZ f=true from fun h=>by rw [mZ,aA h];rfl);have HGOOD:=V (show f.may ->mZ f=false from fun h=>by rw [mZ,az h];rfl);have HL:=V (Gy f.labels);have HLV:=V (By f.locals);clear hbad;go_enter func125,ntmps125;go_wp2_with fail;have LI:=eE.new w #[.int .i64 f.fn, .int .i64 f.pc, .slice au f.locals.length Kr, .int .i64 f.base, .slice ax f.labels.length Lr] 40;refine(zk _ f.labels _ (HV.out.below ((an _ _).alloc (ag _) _))).mono ?_;rintro y w1 ⟨rfl,Kw⟩;replace LI:=LI.below Kw (by simp);have hb:Below w.heap.size w w1:=((an w.heap.size w).alloc (ag _) _).trans (Kw.mono (by simp));clear Kw;obtain⟨x0,x1,x2,x3,x4⟩:=LI.rF;cases q1:f.labels.any sD with
 | true=>
  have Q1:=V q1;clear q1 LI;have HX:=V (show mZ f=true from HBAD.out (fun h=>by have:=HL.out.2 h.1;rw [Q1.out]at this;cases this));go_wp2_with fail;go_ret;exact⟨by rw [HX.out];rfl,hb⟩
 | false=>
  have Q1:=V (HL.out.1 q1);clear q1;by_cases q2:40 < f.labels.length
  ·have f2:decide (40 < (f.labels.length:Int))=true:=az (by omega)
   clear LI;have HX:=V (show mZ f=true from HBAD.out (fun h=>by have:=h.2.1;omega));go_wp2_with fail;go_ret;exact⟨by rw [HX.out];rfl,hb⟩
  have f2:decide (40 < (f.labels.length:Int))=false:=aA (by omega);by_cases q3:32 < f.locals.length
  ·have f3:decide (32 < (f.locals.length:Int))=true:=az (by omega)
   clear LI;have HX:=V (show mZ f=true from HBAD.out (fun h=>by have:=h.2.2.1;omega));go_wp2_with fail;go_ret;exact⟨by rw [HX.out];rfl,hb⟩
  have f3:decide (32 < (f.locals.length:Int))=false:=aA (by omega);go_wp2_with fail;refine(sY _ f.locals _ (HU.out.below (hb.mono (ag _)))).mono ?_;rintro y w2 ⟨rfl,Kl⟩;replace LI:=LI.below Kl LI.lt;replace hb:=dW hb Kl;clear Kl x0 x1 x2 x3 x4;obtain⟨x0,x1,x2,x3,x4⟩:=LI.rF;clear LI;cases q4:f.locals.any tf with
  | true=>
   have Q4:=V q4;clear q4;have HX:=V (show mZ f=true from HBAD.out (fun h=>by have:=HLV.out.2 h.2.2.2.1;rw [Q4.out]at this;cases this));go_wp2_with fail;go_ret;exact⟨by rw [HX.out];rfl,hb⟩
  | false=>
   have Q4:=V (HLV.out.1 q4);clear q4;go_wp2_with fail;have hl:=Dg w2 f.fn f.pc f.base 3;refine(wE _ _ _ hl).mono ?_;rintro y w3 ⟨rfl,K4⟩;replace hb:=dW hb (((an w2.heap.size w2).alloc (ag _) _).trans (K4.mono (by simp)));clear K4 x0 x1 x2 x3 x4 hl;cases q5:[f.fn,f.pc,f.base].any pn with
   | true=>
    have Q5:=V q5;clear q5;have HX:=V (show mZ f=true from HBAD.out (fun h=>by have g:=Q5.out;simp [kF.2 h.2.2.2.2.1,kF.2 h.2.2.2.2.2.1,kF.2 h.2.2.2.2.2.2]at g));go_wp2_with fail;go_ret;exact⟨by rw [HX.out];rfl,hb⟩
   | false=>
    have Q5:=V q5;clear q5;have HX:=V (show mZ f=false from HGOOD.out (by have g:=Q5.out;simp at g;exact⟨Q1.out,by omega,by omega,Q4.out,kF.1 g.1,kF.1 g.2.1,kF.1 g.2.2⟩));go_wp2_with fail;go_ret;exact⟨by rw [HX.out];rfl,hb⟩
theorem xF (v:Value) (l:List eW) (w:World) (hl:fU w v l):
  Calls prog 239 #[v, .func (.func 125) #[] #[]] w (jP mZ l w):=by
 have HI:=V hl;obtain⟨a,cap,rfl,h1,h2⟩:=hl.slice;clear hl;go_enter func239,ntmps239;go_wp2_with fail;refine ez (fun a' w'=>∃(k:Nat),a'=fr (.slice a l.length cap:: .func (.func 125) #[] #[]::gs a' 2 5 (.int .i64 l.length:: .int .i64 k::gs a' 9 10 []))/\pI mZ l w w' k) (fun a' _=>(l.length - (intOf (a'.tmps.getD 8 undef)).toNat)) ?_ ?_
 ·exact⟨0,rfl,by omega,fun i hi=>by omega,an _ _⟩
 ·skip
  rintro R a' w1 ⟨k,Kk,hJ⟩ HR;dsimp only [fr,gs]at Kk;generalize slot a'=f at Kk;subst Kk;obtain⟨hk,hm,hb⟩:=hJ;have Lj:=V hm;clear hm;by_cases Lg:k < l.length;rotate_left
  ·obtain rfl:k=l.length:=by omega
   go_wp2_with fail;go_ret;exact⟨by rw [gL Lj.out];rfl,hb⟩
  obtain⟨e,he⟩:∃e,l[k]?=some e:=⟨_,aq Lg⟩;obtain⟨b,off,u,x,rfl,Kq,⟨c0,c1,c2,c3,c4⟩,hu,hx,-⟩:=(HI.out.below (hb.mono (ag _))).get he;have Ks:=vw e u x w1 hu hx;obtain⟨au,Kr,rfl,-,-,-⟩:=hu;obtain⟨ax,Lr,rfl,-,-,-⟩:=hx;have HE:=V he;clear he;cases hq:mZ e
  all_goals
   rw [hq]at Ks;have HQ:=V hq;clear hq;go_wp2_with fail;refine Ks.mono ?_;rintro x w2 ⟨rfl,Kl⟩;replace hb:=dW hb Kl;clear Ks Kl c0 c1 c2 c3 c4;go_wp2_with fail
  ·refine HR.out _ _ ⟨k+1,rfl,by omega,?_,hb⟩ ?_
   ·intro i hi d hd
    rcases bq i k with h | h
    ·exact Lj.out i h d hd
    ·obtain rfl:i=k:=by omega
     rw [HE.out]at hd;injection hd with hd;rw [<- hd];exact HQ.out
   ·simp [intOf]
    omega
  ·go_ret
   exact⟨by rw [ie HE.out HQ.out Lj.out];rfl,hb⟩
theorem zh (v:Value) (l:List eW) (w:World) (hl:fU w v l):
  Calls prog 124 #[v, .func (.func 125) #[] #[]] w (et (l.any mZ) w):=by
 go_enter func124,ntmps124;go_wp2_with fail;refine(xF v l _ hl).mono ?_;rintro x w2 ⟨rfl,hb⟩;go_wp2_with fail;go_ret;exact⟨by rw [<- iu];rfl,hb⟩
theorem nZ (uv uf:Value) (s:gI) (w:World) (hs:jA w uv uf s):
  Calls prog 80 #[.agg #[uv,uf, .int .i64 s.asks]] w (et (decide s.may) w):=by
 have HS:=V hs;obtain⟨hv,hf,⟨⟨o1,o2⟩,-,-⟩⟩:=hs;obtain⟨av,KJ,rfl,_,LC,_⟩:=hv;obtain⟨af,L5,rfl,_,O6⟩:=hf.slice;unfold maxLen at LC;have HL:=V (Gi s.ef);have HLV:=V (By s.dX);clear hf;have hb:Below w.heap.size w (w.alloc (.cells #[.slice av s.dX.length KJ, .slice af s.ef.length L5, .int .i64 s.asks] 37)):=(an _ _).alloc (ag _) _;go_enter func80,ntmps80;by_cases q1:1000 < s.dX.length
 ·have f1:decide (1000 < (s.dX.length:Int))=true:=az (by omega)
  have HX:=V (show decide s.may=false from aA (fun h=>by have:=h.1;omega));go_wp2_with fail;go_ret;exact⟨by rw [HX.out];rfl,hb⟩
 have f1:decide (1000 < (s.dX.length:Int))=false:=aA (by omega);by_cases q2:32 < s.ef.length
 ·have f2:decide (32 < (s.ef.length:Int))=true:=az (by omega)
  have HX:=V (show decide s.may=false from aA (fun h=>by have:=h.2.1;omega));go_wp2_with fail;go_ret;exact⟨by rw [HX.out];rfl,hb⟩
 have f2:decide (32 < (s.ef.length:Int))=false:=aA (by omega);by_cases q3:s.asks < -1
 ·have f3:decide (s.asks < -1)=true:=az q3
  have HX:=V (show decide s.may=false from aA (fun h=>by have:=h.2.2.1;omega));go_wp2_with fail;go_ret;exact⟨by rw [HX.out];rfl,hb⟩
 have f3:decide (s.asks < -1)=false:=aA q3;by_cases q4:10000 < s.asks
 ·have f4:decide (10000 < s.asks)=true:=az q4
  have HX:=V (show decide s.may=false from aA (fun h=>by have:=h.2.2.2.1;omega));go_wp2_with fail;go_ret;exact⟨by rw [HX.out];rfl,hb⟩
 have f4:decide (10000 < s.asks)=false:=aA q4;go_wp2_with fail;have LI:=eE.new w #[.slice av s.dX.length KJ, .slice af s.ef.length L5, .int .i64 s.asks] 37;refine(sY _ s.dX _ (HS.out.1.below (hb.mono (ag _)))).mono ?_;rintro y w1 ⟨rfl,Kw⟩;replace LI:=LI.below Kw (by simp);have hb:=hb.trans (Kw.mono hb.size);clear Kw;obtain⟨x0,x1,x2⟩:=LI.three;clear LI;cases q5:s.dX.any tf with
 | true=>
  have Q5:=V q5;clear q5;have HX:=V (show decide s.may=false from aA (fun h=>by have:=HLV.out.2 h.2.2.2.2.1;rw [Q5.out]at this;cases this));go_wp2_with fail;go_ret;exact⟨by rw [HX.out];rfl,hb⟩
 | false=>
  have Q5:=V (HLV.out.1 q5);clear q5;go_wp2_with fail;refine(zh _ s.ef _ (HS.out.2.1.below (hb.mono (ag _)))).mono ?_;rintro y w2 ⟨rfl,Kl⟩;replace hb:=dW hb Kl;clear Kl x0 x1 x2;cases q6:s.ef.any mZ with
  | true=>
   have Q6:=V q6;clear q6;have HX:=V (show decide s.may=false from aA (fun h=>by have:=HL.out.2 h.2.2.2.2.2;rw [Q6.out]at this;cases this));go_wp2_with fail;go_ret;exact⟨by rw [HX.out];rfl,hb⟩
  | false=>
   have Q6:=V (HL.out.1 q6);clear q6;have HX:=V (show decide s.may=true from az ⟨by omega,by omega,by omega,by omega,Q5.out,Q6.out⟩);go_wp2_with fail;go_ret;exact⟨by rw [HX.out];rfl,hb⟩
end Go.Proofs.YthbjdhjppbcneaaGreatDoor
