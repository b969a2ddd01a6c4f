import Derived.Test.YtjmeglibedbljaaGreatDoorRunWorldJ1
namespace Go.Proofs.YtjmeglibedbljaaGreatDoor
set_option maxRecDepth 100000
set_option maxHeartbeats 20000000
open Go.RowKit Tryz
open Lib renaming hid->V
set_option linter.all false
def oU:List UInt8 ->Nat
 | []=>0
 | x::l=>x.toNat %128+128*oU l
def iB (bits:Int) (l:List UInt8):Nat × Nat × Int:=
 if(fu bits l).2≠0 then(0,0,(fu bits l).2)
 else if ff (oU (l.take (fu bits l).1))=l.take (fu bits l).1/\oU (l.take (fu bits l).1) < 2^bits.toNat then(oU (l.take (fu bits l).1),(fu bits l).1,0)
 else(0,0,1)
theorem jm {bits:Int} {l:List UInt8} (h:(fu bits l).2=0):
  1 <=bits/\bits <=64/\(fu bits l).1=cont l+1/\cont l+1 <=l.length/\(cont l:Int)+1 <=(bits+6)/7:=by
 have:=za l;unfold fu at*;by_cases h1:bits < 1\/64 < bits
 ·rw [aE h1]at h;cases h
 rw [az h1]at*;by_cases h2:(bits+6)/7 <=cont l
 ·rw [aE h2]at h;cases h
 rw [az h2]at*;by_cases h3:cont l=l.length
 ·rw [aE h3]at h;cases h
 rw [az h3];exact⟨by omega,by omega,rfl,by omega,by omega⟩
theorem wrap_u64 (n:Int):IntKind.u64.wrap n=n %18446744073709551616:=by simp [IntKind.wrap,IntKind.bits,IntKind.signed]
theorem Lr (y:Nat) (h:y < 256):bits .andNot .u8 (y:Int) 128=((y %128:Nat):Int):=by
 have h0:=u8_andNot_nat y 128 h (by omega);rw [show(255 - 128:Nat)=127 from rfl,nat_mask7]at h0;exact h0
theorem L7 (x y:Nat) (hy:y < 256):
  bits .or .u64 (IntKind.u64.wrap ((x:Int)*128)) (IntKind.u64.wrap (bits .andNot .u8 (y:Int) 128))=(((y %128+128*x) %18446744073709551616:Nat):Int):=by
 rw [Lr y hy,wrap_u64,wrap_u64];have h1:((x:Int)*128) %18446744073709551616=((x*128 %18446744073709551616:Nat):Int):=by omega
 have h2:(((y %128:Nat):Int)) %18446744073709551616=((y %128:Nat):Int):=by omega
 rw [h1,h2,u64_or_nat _ _ (by omega) (by omega),nat_join 7 _ _ (by omega) (by omega)]
 congr 1
 omega
theorem Fh {l:List UInt8} {k j:Nat} {y:UInt8} (hy:l[j]?=some y) (hj:j < k):oU ((l.take k).drop j)=y.toNat %128+128*oU ((l.take k).drop (j+1)):=by
 have h:(l.take k)[j]?=some y:=by rw [cZ,aE hj];exact hy
 obtain⟨Nu,he⟩:=aG.1 h;rw [cz Nu,oU,he]
theorem wN:∀(f n:Nat),n < 128^f ->oU (jV f n)=n
 | 0,n,h=>by
  simp at h;subst h;rfl
 | f+1,n,h=>by
  rw [jV];split
  ·rw [oU,oU,gZ (by omega)]
   omega
  ·rw [oU,gZ (by omega),wN f (n/128) (by rw [Nat.pow_succ]at h;omega)]
   omega
theorem tu {n:Nat} (h:n < 18446744073709551616):oU (ff n)=n:=wN 10 n (by omega)
theorem DX {bits:Int} {l:List UInt8} {k x:Nat} (he:(fu bits l).2=0) (hk:k=(fu bits l).1) (hx:x=oU (l.take k) %18446744073709551616)
  (hs:(l.take k==ff x)=true) (hr:if bits < 64 then(x:Int)/2^bits.toNat=0 else True):iB bits l=(x,k,0):=by
 obtain⟨h1,h2,_⟩:=jm he;have hs':l.take k=ff x:=by simpa using hs
 have PF:x < 18446744073709551616:=by omega
 have hv:oU (l.take k)=x:=by rw [hs'];exact tu PF
 have Nu:x < 2^bits.toNat:=by
  by_cases h:bits < 64
  ·rw [aE h]at hr
   have h0:((x/2^bits.toNat:Nat):Int)=0:=by rw [<- hr];simp
   have h3:x/2^bits.toNat=0:=by omega
   rcases bz x (2^bits.toNat)with h4 | h4
   ·exact h4
   ·have:=Nat.div_pos h4 (dn _)
    omega
  ·obtain rfl:bits=64:=by omega
   exact PF
 rw [iB,az (by rw [he];simp), <- hk,hv,aE ⟨hs'.symm,Nu⟩]
theorem Br {bits:Int} {l:List UInt8} {k x:Nat} (he:(fu bits l).2=0) (hk:k=(fu bits l).1) (hx:x=oU (l.take k) %18446744073709551616)
  (hs:(l.take k==ff x)=false\/¬ (if bits < 64 then(x:Int)/2^bits.toNat=0 else True)):iB bits l=(0,0,1):=by
 obtain⟨h1,h2,_⟩:=jm he;rw [iB,az (by rw [he];simp), <- hk,az];rintro⟨h3,h4⟩;have h5:2^bits.toNat <=18446744073709551616:=by
  have:2^bits.toNat <=2^64:=cP (by omega) (by omega);exact this
 have hv:x=oU (l.take k):=by omega
 rcases hs with h | h
 ·rw [hv,h3]at h
  simp at h
 ·apply h
  split
  ·have h6:x/2^bits.toNat=0:=Nat.div_eq_of_lt (by omega)
   have h7:((x/2^bits.toNat:Nat):Int)=0:=by omega
   rw [<- h7];simp
  ·trivial
def M0 (bits:Int) (l:List UInt8) (w:World) (e:Ending) (w':World):Prop:=
 e= .returned (.tuple #[.int .u64 (iB bits l).1, .int .i64 (iB bits l).2.1, .int .i64 (iB bits l).2.2])/\Below w.heap.size w w'
def UJ (l:List UInt8) (k:Nat) (w w':World) (x i:Nat):Prop:=w'=w/\i <=k/\x=oU ((l.take k).drop i) %18446744073709551616
theorem wW (b:Value) (l:List UInt8) (bits:Int) (w:World) (hb:eZ w b l) (Nx: -9223372036854775808 <=bits) (No:bits <=9223372036854775807):
  Calls prog 204 #[b, .int .i64 bits] w (M0 bits l w):=by
 by_cases he:(fu bits l).2=0
 ·obtain⟨k,hk⟩:∃k,k=(fu bits l).1:=⟨_,rfl⟩
  have HK:=V hk;have Sy:=V hb;obtain⟨NP,OG,P1,Nw,Oo⟩:=jm he;have RE:1 <=k:=by omega
  have N8:k <=l.length:=by omega
  have RP:k <=10:=by omega
  clear P1 Nw Oo;obtain⟨a,cap,rfl,hl,hm,hc⟩:=hb;unfold maxLen at hm;have HC:=V hc;have HE:=V he;clear hc hk he;go_enter func204,ntmps204;go_wp2;refine kF 0 (fun a' w'=>∃(x i:Nat) (u8 Tt SX Tu Tv Tw u16 Tx Ty Tz u20 u21 u22 u23 u24 u25 u26 u27 u28 u29 u30 u31 u32 u33 u34 u35 u36 u37 u38 u39 u40 u41 u42 u43 u44 u45 u46 u47 u48 u49 u50 u51 u52:Value),a'={tmps:=#[.slice a l.length cap, .int .i64 bits,undef,undef, .int .u64 0, .int .i64 0, .int .i64 0, .int .i64 k,u8, .int .u64 x, .int .i64 i,Tt,SX,Tu,Tv,Tw,u16,Tx,Ty,Tz,u20,u21,u22,u23,u24,u25,u26,u27,u28,u29,u30,u31,u32,u33,u34,u35,u36,u37,u38,u39,u40,u41,u42,u43,u44,u45,u46,u47,u48,u49,u50,u51,u52],defers:=[]}/\UJ l k w w' x i) (fun a' _=>(intOf (a'.tmps.getD 10 undef)).toNat) rfl ?_ ?_
  ·rintro a' w1 ⟨x,i,u8,Tt,SX,Tu,Tv,Tw,u16,Tx,Ty,Tz,u20,u21,u22,u23,u24,u25,u26,u27,u28,u29,u30,u31,u32,u33,u34,u35,u36,u37,u38,u39,u40,u41,u42,u43,u44,u45,u46,u47,u48,u49,u50,u51,u52,rfl,hJ⟩
   obtain⟨rfl,hik,hx⟩:=hJ;have HX:=V hx;clear hx;by_cases hi:i=0
   ·subst hi
    rw [List.drop_zero]at HX;have PF:x < 18446744073709551616:=by have:=HX.out;omega
    have hbt:eZ w1 (.slice a k cap) (l.take k):=Sy.out.take k N8;have HBT:=V hbt;clear hbt;by_cases hs:(l.take k==ff x)=true
    ·by_cases h64:bits < 64
     ·have hd:decide (bits < 64)=true:=by simpa using h64
      by_cases hr:(x:Int)/2^bits.toNat=0
      ·have RQ:(((x:Int)/2^bits.toNat) !=0)=false:=by simp [hr]
       have P7:(((x:Int)/2^bits.toNat)==0)=true:=by simp [hr]
       have HR:=V hr;clear hr;have HS:=V hs;clear hs;go_wp2_with fail;refine eB (fun _=>True) (up 0 4 ((4,false)::(5,false)::up 6 11 [])) (by kernel_rfl) (by kernel_rfl) trivial ?_;iterate 4 (first | (apply sk rfl rfl;simp only [pt]) | (apply eo rfl rfl rfl;·(intro w' _;go_wp2;exact⟨rfl,rfl,rfl⟩)))
       refine ew rfl rfl ?_;go_wp2_with (go_at_call 270;refine(jj _ [] x PF w1.heap.size _ (eC.nil _ _) (by simp) (by simp)).mono ?_;rintro e w2 ⟨v2,rfl,NU,Nw,NC⟩);have No:=fY (Nw.below (ag _) (by intro i hi;cases hi));refine⟨trivial,?_⟩;refine ew rfl rfl ?_;go_wp2_with (go_at_call 282;refine(mC _ _ (l.take k) (ff x) _ (HBT.out.below No) NU.gK).mono ?_;rintro e w3 ⟨rfl,rfl⟩;rw [HS.out]);refine⟨trivial,?_⟩;iterate 11 (first | (apply sk rfl rfl;simp only [pt]) | (apply eo rfl rfl rfl;·(intro w' _;go_wp2;exact⟨rfl,rfl,rfl⟩)))
       refine eW ?_;refine aA ?_;go_wp2;rw [iW]
       go_ret3
       refine⟨?_,No⟩;rw [DX HE.out HK.out HX.out HS.out (by rw [aE h64];exact HR.out)];rfl
      ·have RQ:(((x:Int)/2^bits.toNat) !=0)=true:=by simp [hr]
       have P7:(((x:Int)/2^bits.toNat)==0)=false:=by simp [hr]
       have HR:=V hr;clear hr;have HS:=V hs;clear hs;go_wp2_with fail;refine eB (fun _=>True) (up 0 4 ((4,false)::(5,false)::up 6 11 [])) (by kernel_rfl) (by kernel_rfl) trivial ?_;iterate 4 (first | (apply sk rfl rfl;simp only [pt]) | (apply eo rfl rfl rfl;·(intro w' _;go_wp2;exact⟨rfl,rfl,rfl⟩)))
       refine ew rfl rfl ?_;go_wp2_with (go_at_call 270;refine(jj _ [] x PF w1.heap.size _ (eC.nil _ _) (by simp) (by simp)).mono ?_;rintro e w2 ⟨v2,rfl,NU,Nw,NC⟩);have No:=fY (Nw.below (ag _) (by intro i hi;cases hi));refine⟨trivial,?_⟩;refine ew rfl rfl ?_;go_wp2_with (go_at_call 282;refine(mC _ _ (l.take k) (ff x) _ (HBT.out.below No) NU.gK).mono ?_;rintro e w3 ⟨rfl,rfl⟩;rw [HS.out]);refine⟨trivial,?_⟩;iterate 11 (first | (apply sk rfl rfl;simp only [pt]) | (apply eo rfl rfl rfl;·(intro w' _;go_wp2;exact⟨rfl,rfl,rfl⟩)))
       refine eW ?_;refine aA ?_;go_wp2;rw [iW]
       go_ret3
       refine⟨?_,No⟩;rw [Br HE.out HK.out HX.out (.inr (by rw [aE h64];exact HR.out))];rfl
     ·have hd:decide (bits < 64)=false:=by simpa using h64
      have HS:=V hs;clear hs;go_wp2_with fail;refine eB (fun _=>True) (up 0 4 ((4,false)::(5,false)::up 6 11 [])) (by kernel_rfl) (by kernel_rfl) trivial ?_;iterate 4 (first | (apply sk rfl rfl;simp only [pt]) | (apply eo rfl rfl rfl;·(intro w' _;go_wp2;exact⟨rfl,rfl,rfl⟩)))
      refine ew rfl rfl ?_;go_wp2_with (go_at_call 270;refine(jj _ [] x PF w1.heap.size _ (eC.nil _ _) (by simp) (by simp)).mono ?_;rintro e w2 ⟨v2,rfl,NU,Nw,NC⟩);have No:=fY (Nw.below (ag _) (by intro i hi;cases hi));refine⟨trivial,?_⟩;refine ew rfl rfl ?_;go_wp2_with (go_at_call 282;refine(mC _ _ (l.take k) (ff x) _ (HBT.out.below No) NU.gK).mono ?_;rintro e w3 ⟨rfl,rfl⟩;rw [HS.out]);refine⟨trivial,?_⟩;iterate 11 (first | (apply sk rfl rfl;simp only [pt]) | (apply eo rfl rfl rfl;·(intro w' _;go_wp2;exact⟨rfl,rfl,rfl⟩)))
      refine eW ?_;refine aA ?_;go_wp2;rw [iW]
      go_ret3
      refine⟨?_,No⟩;rw [DX HE.out HK.out HX.out HS.out (by rw [az (by omega)];trivial)];rfl
    ·rw [Bool.not_eq_true]at hs
     have HS:=V hs;clear hs;go_wp2_with fail;refine eB (fun _=>True) (up 0 4 ((4,false)::(5,false)::up 6 11 [])) (by kernel_rfl) (by kernel_rfl) trivial ?_;iterate 4 (first | (apply sk rfl rfl;simp only [pt]) | (apply eo rfl rfl rfl;·(intro w' _;go_wp2;exact⟨rfl,rfl,rfl⟩)))
     refine ew rfl rfl ?_;go_wp2_with (go_at_call 270;refine(jj _ [] x PF w1.heap.size _ (eC.nil _ _) (by simp) (by simp)).mono ?_;rintro e w2 ⟨v2,rfl,NU,Nw,NC⟩);have No:=fY (Nw.below (ag _) (by intro i hi;cases hi));refine⟨trivial,?_⟩;refine ew rfl rfl ?_;go_wp2_with (go_at_call 282;refine(mC _ _ (l.take k) (ff x) _ (HBT.out.below No) NU.gK).mono ?_;rintro e w3 ⟨rfl,rfl⟩;rw [HS.out]);refine⟨trivial,?_⟩;iterate 11 (first | (apply sk rfl rfl;simp only [pt]) | (apply eo rfl rfl rfl;·(intro w' _;go_wp2;exact⟨rfl,rfl,rfl⟩)))
     refine eW ?_;refine aA ?_;go_wp2;rw [iW]
     go_ret3
     refine⟨?_,No⟩;rw [Br HE.out HK.out HX.out (.inl HS.out)];rfl
   ·obtain⟨j,rfl⟩:∃j,i=j+1:=⟨i - 1,by omega⟩
    obtain⟨y,hy⟩:∃y,l[j]?=some y:=⟨_,aq (show j < l.length by omega)⟩;obtain⟨b,off,rfl,hc⟩:=HC.out j y hy;have hy8:=y.toNat_lt;have HY:=V hy;clear hy;have Nu:j < l.length:=by omega
    go_wp2_with fail
    go_step3
    simp only [Exit.then];rw [L7 x y.toNat hy8];refine lT ⟨_,j,_,_,_,_,_,_,_,_,_,_,_,_,_,_,_,_,_,_,_,_,_,_,_,_,_,_,_,_,_,_,_,_,_,_,_,_,_,_,_,_,_,_,_,rfl,rfl,by omega,?_⟩ ?_
    ·rw [Fh HY.out (by omega),HX.out]
     omega
    ·simp [intOf]
  ·intro H
   have Hh:=V H;clear H;go_wp2_with (go_at_call 281;refine(nL _ l _ _ Sy.out (by omega) (by omega)).mono ?_;rintro e w' ⟨rfl,rfl⟩;rw [HE.out, <- HK.out])
   go_step3
   go_step
   go_step
   refine Hh.out _ _ ⟨0,k,_,_,_,_,_,_,_,_,_,_,_,_,_,_,_,_,_,_,_,_,_,_,_,_,_,_,_,_,_,_,_,_,_,_,_,_,_,_,_,_,_,_,_,rfl,rfl,ag _,?_⟩;rw [List.drop_eq_nil_of_le (by rw [aP];omega)];rfl
 ·have HE:=V he
  have Sy:=V hb;have HB:=V (eh he);clear he hb;go_enter func204,ntmps204;go_wp2
  go_step3
  go_wp2_with (go_at_call 281;refine(nL _ l _ _ Sy.out (by omega) (by omega)).mono ?_;rintro e w' ⟨rfl,rfl⟩;have hb:=HB.out);rw [Exit.noGoto_ret]
  go_ret3
  refine⟨?_,an _ _⟩;rw [iB,aE HE.out];rfl
def iU:Nat ->Int ->List UInt8
 | 0,_=>[]
 | f+1,n=>if -64 <=n/\n < 64 then [b8 (n %128).toNat]else b8 ((n %128).toNat+128)::iU f (n/128)
def iG (n:Int):List UInt8:=iU 10 n
def Mi (xs:List UInt8) (u:Int) (B:Nat) (b:Value) (w w':World) (v:Value) (n:Int):Prop:=
 ∃(ys:List UInt8) (k f:Nat),eC w' B v ys/\ep (eO b) w w'/\eQ w b v/\ys.length <=xs.length+k/\k+f=9/\ -((128:Int)^f) <=n/\n < 128^f/\ys++iU (f+1) n=xs++iU 10 u
def JJ (xs:List UInt8) (u:Int) (B:Nat) (b:Value) (w:World) (e:Ending) (w':World):Prop:=
 ∃v,e= .returned v/\eC w' B v (xs++iG u)/\ep (eO b) w w'/\eQ w b v
theorem uK (n:Int):bits .andNot .u8 (n %256) 128=n %128:=by
 obtain⟨m,hm⟩:∃m:Nat,(m:Int)=n %256:=⟨(n %256).toNat,by omega⟩;rw [<- hm,Lr m (by omega)];omega
theorem LQ:∀x:Fin 128,x.val&&&64=if x.val < 64 then 0 else 64:=by decide+kernel
theorem Dg (n:Int):bits .and .u8 (n %128) 64=if n %128 < 64 then 0 else 64:=by
 obtain⟨m,hm⟩:∃m:Nat,(m:Int)=n %128:=⟨(n %128).toNat,by omega⟩;have h0:=u8_and_nat m 64 (by omega) (by omega);rw [LQ ⟨m,by omega⟩]at h0;rw [<- hm];refine h0.trans ?_;by_cases h:m < 64
 ·rw [aE h,aE (by omega)];rfl
 ·rw [az h,az (by omega)];rfl
theorem KP (n:Int):bits .andNot .u8 (n %256) 128=((b8 (n %128).toNat).toNat:Int):=by
 rw [uK,gZ (by omega)];omega
theorem FV (n:Int):bits .or .u8 (bits .andNot .u8 (n %256) 128) 128=((b8 ((n %128).toNat+128)).toNat:Int):=by
 rw [uK,gZ (by omega)];obtain⟨m,hm⟩:∃m:Nat,(m:Int)=n %128:=⟨(n %128).toNat,by omega⟩;rw [<- hm,wR m (by omega)];omega
theorem nG (b:Value) (xs:List UInt8) (u:Int) (h0: -9223372036854775808 <=u) (h1:u <=9223372036854775807) (B:Nat) (w:World) (Nl:eC w B b xs) (hn:xs.length <=1000000000) (hB:B <=w.heap.size):
  Calls prog 297 #[b, .int .i64 u] w (JJ xs u B b w):=by
 go_enter func297,ntmps297;go_wp2;refine kF 0 (fun a' w'=>∃(v:Value) (n:Int) (u5 u6 u7 u8 u9 u10 Tt SX Tu Tv Tw u16 Tx Ty Tz u20 u21 u22 u23 u24 u25 u26 u27 u28 u29 u30 u31 u32 u33 u34 u35:Value),a'={tmps:=#[v, .int .i64 n,undef,undef, .slice none 0 0,u5,u6,u7,u8,u9,u10,Tt,SX,Tu,Tv,Tw,u16,Tx,Ty,Tz,u20,u21,u22,u23,u24,u25,u26,u27,u28,u29,u30,u31,u32,u33,u34,u35],defers:=[]}/\Mi xs u B b w w' v n) (fun a' _=>(intOf (a'.tmps.getD 1 undef)).natAbs) rfl ?_ ?_
 ·rintro a' w1 ⟨v,n,u5,u6,u7,u8,u9,u10,Tt,SX,Tu,Tv,Tw,u16,Tx,Ty,Tz,u20,u21,u22,u23,u24,u25,u26,u27,u28,u29,u30,u31,u32,u33,u34,u35,rfl,hJ⟩
  obtain⟨ys,k,f,Qv,hk,hs,hlen,hkf,hnf1,hnf2,heq⟩:=hJ;have HE:=V heq;have HK:=V hkf;have hk9:k <=9:=by omega
  clear heq hkf Nl;have Oc:=hk.size;have hc:=Dg n;rw [<- uK]at hc;have HC:=V hc;clear hc;by_cases n0:n/128=0
  ·by_cases n1:n %128 < 64
   ·have e1:=eV n0
    have e2:(bits .and .u8 (bits .andNot .u8 (n %256) 128) 64==0)=true:=by rw [HC.out,uK,aE n1];rfl
    have Od: -64 <=n/\n < 64:=by omega
    clear n0;have HS:=V Od;clear Od;go_wp2_with (first | (at_builtin;refine fm w1 rfl _ _ rfl rfl B v ys rfl Qv (b8 (n %128).toNat) _ (KP n) rfl ?_ ?_ ?_))
    ·omega
    ·omega
    ·intro v' w2 NU Nw NC
     go_wp2;rw [iW];go_ret;refine⟨v',rfl,?_,hk.trans Nw ?_,hs.trans NC Oc⟩
     ·have h:=HE.out
      rw [iU,aE HS.out]at h;rw [iG, <- h];exact NU
     ·exact fun i hi=>hs i hi
   ·have e1:=eV n0
    have e2:(bits .and .u8 (bits .andNot .u8 (n %256) 128) 64==0)=false:=by rw [HC.out,uK,az n1];rfl
    have e3:=eh (a:=n/128) (b:= -1) (by omega);have Od:¬ (-64 <=n/\n < 64):=by omega
    clear n0;have HS:=V Od;clear Od;go_wp2_with (first | (at_builtin;refine fm w1 rfl _ _ rfl rfl B v ys rfl Qv (b8 ((n %128).toNat+128)) _ (FV n) rfl ?_ ?_ ?_))
    ·omega
    ·omega
    ·intro v' w2 NU Nw NC
     go_wp2
     go_step3
     have Od:=HS.out;have hf:f≠0:=by
      rintro rfl;omega
     obtain⟨f',rfl⟩:∃f',f=f'+1:=⟨f - 1,by omega⟩;refine lT ⟨v',n/128,_,_,_,_,_,_,_,_,_,_,_,_,_,_,_,_,_,_,_,_,_,_,_,_,_,_,_,_,_,_,_,rfl,ys++[b8 ((n %128).toNat+128)],k+1,f',NU,hk.trans Nw (fun i hi=>hs i hi),hs.trans NC Oc,?_,?_,?_,?_,?_⟩ ?_
     ·simp
      omega
     ·have:=HK.out
      omega
     ·rw [bQ]at hnf1
      omega
     ·rw [bQ]at hnf2
      omega
     ·have h:=HE.out
      rw [iU,az Od]at h;rw [<- h];simp
     ·simp [intOf]
      omega
  by_cases n0:n/128= -1
  ·by_cases n1:n %128 < 64
   ·have e1:=eV n0
    have e2:(bits .and .u8 (bits .andNot .u8 (n %256) 128) 64 !=0)=false:=by rw [HC.out,uK,aE n1];rfl
    have e3:=eh (a:=n/128) (b:=0) (by omega);have Od:¬ (-64 <=n/\n < 64):=by omega
    clear n0;have HS:=V Od;clear Od;go_wp2_with (first | (at_builtin;refine fm w1 rfl _ _ rfl rfl B v ys rfl Qv (b8 ((n %128).toNat+128)) _ (FV n) rfl ?_ ?_ ?_))
    ·omega
    ·omega
    ·intro v' w2 NU Nw NC
     go_wp2
     go_step3
     have Od:=HS.out;have hf:f≠0:=by
      rintro rfl;omega
     obtain⟨f',rfl⟩:∃f',f=f'+1:=⟨f - 1,by omega⟩;refine lT ⟨v',n/128,_,_,_,_,_,_,_,_,_,_,_,_,_,_,_,_,_,_,_,_,_,_,_,_,_,_,_,_,_,_,_,rfl,ys++[b8 ((n %128).toNat+128)],k+1,f',NU,hk.trans Nw (fun i hi=>hs i hi),hs.trans NC Oc,?_,?_,?_,?_,?_⟩ ?_
     ·simp
      omega
     ·have:=HK.out
      omega
     ·rw [bQ]at hnf1
      omega
     ·rw [bQ]at hnf2
      omega
     ·have h:=HE.out
      rw [iU,az Od]at h;rw [<- h];simp
     ·simp [intOf]
      omega
   ·have e1:=eV n0
    have e2:(bits .and .u8 (bits .andNot .u8 (n %256) 128) 64 !=0)=true:=by rw [HC.out,uK,az n1];rfl
    have e3:=eh (a:=n/128) (b:=0) (by omega);have Od: -64 <=n/\n < 64:=by omega
    clear n0;have HS:=V Od;clear Od;go_wp2_with (first | (at_builtin;refine fm w1 rfl _ _ rfl rfl B v ys rfl Qv (b8 (n %128).toNat) _ (KP n) rfl ?_ ?_ ?_))
    ·omega
    ·omega
    ·intro v' w2 NU Nw NC
     go_wp2;rw [iW];go_ret;refine⟨v',rfl,?_,hk.trans Nw ?_,hs.trans NC Oc⟩
     ·have h:=HE.out
      rw [iU,aE HS.out]at h;rw [iG, <- h];exact NU
     ·exact fun i hi=>hs i hi
  ·have e1:=eh (a:=n/128) (b:=0) (by omega)
   have e2:=eh (a:=n/128) (b:= -1) (by omega);have Od:¬ (-64 <=n/\n < 64):=by omega
   have HS:=V Od;clear Od;go_wp2_with (first | (at_builtin;refine fm w1 rfl _ _ rfl rfl B v ys rfl Qv (b8 ((n %128).toNat+128)) _ (FV n) rfl ?_ ?_ ?_))
   ·omega
   ·omega
   ·intro v' w2 NU Nw NC
    go_wp2
    go_step3
    have Od:=HS.out;have hf:f≠0:=by
     rintro rfl;omega
    obtain⟨f',rfl⟩:∃f',f=f'+1:=⟨f - 1,by omega⟩;refine lT ⟨v',n/128,_,_,_,_,_,_,_,_,_,_,_,_,_,_,_,_,_,_,_,_,_,_,_,_,_,_,_,_,_,_,_,rfl,ys++[b8 ((n %128).toNat+128)],k+1,f',NU,hk.trans Nw (fun i hi=>hs i hi),hs.trans NC Oc,?_,?_,?_,?_,?_⟩ ?_
    ·simp
     omega
    ·have:=HK.out
     omega
    ·rw [bQ]at hnf1
     omega
    ·rw [bQ]at hnf2
     omega
    ·have h:=HE.out
     rw [iU,az Od]at h;rw [<- h];simp
    ·simp [intOf]
     omega
 ·intro H
  apply wp_seq_k;intro K hK;apply wp_label;apply hK;exact H _ _ ⟨b,u,_,_,_,_,_,_,_,_,_,_,_,_,_,_,_,_,_,_,_,_,_,_,_,_,_,_,_,_,_,_,_,rfl,xs,0,9,Nl,ep.refl _ _,eQ.refl _ _,by omega,rfl,by omega,by omega,rfl⟩
section
def eS (w:World) (X:Nat) (xs:Array Value) (t:TypeId):Prop:=w.heap[X]?=some (.cells xs t)
section
variable {w w':World} {X:Nat} {xs:Array Value} {t:TypeId}
theorem eS.lt (h:eS w X xs t):X < w.heap.size:=(cm.1 h).1
theorem eS.new (w:World) (xs:Array Value) (t:TypeId):eS (w.alloc (.cells xs t)) w.heap.size xs t:=dz w _
theorem eS.keeps {S:Nat ->Prop} (h:eS w X xs t) (hk:ep S w w') (hs:¬ S X):eS w' X xs t:=(hk.block X h.lt hs).trans h
theorem eS.below {B:Nat} (h:eS w X xs t) (hb:Below B w w') (hX:X < B):eS w' X xs t:=(hb.block X hX).trans h
theorem eS.alloc (h:eS w X xs t) (o:Obj):eS (w.alloc o) X xs t:=h.below ((an w.heap.size w).alloc (ag _) o) h.lt
theorem eS.drew (h:eS w X xs t):eS w.drew X xs t:=h
theorem eS.cell (h:eS w X xs t) (i:Nat):w.cell? ⟨X,i,none⟩=xs[i]?:=by
 have:=cell_of_row w X i xs _ _ h;simpa using this
theorem eS.free (h:eS w X xs t) (i:Nat):w.frozen? ⟨X,i,none⟩=false:=dc w X i xs _ h
theorem eS.set (h:eS w X xs t) (i:Nat) (v:Value):eS (w.setCell ⟨X,i,none⟩ v) X (xs.setIfInBounds i v) t:=heap_setCell_same w X i xs _ _ h
theorem eS.other (h:eS w X xs t) (a:Addr) (v:Value) (ha:X≠a.block):eS (w.setCell a v) X xs t:=(cM w a v X ha).trans h
theorem eS.four {x0 x1 x2 x3:Value} (h:eS w X #[x0,x1,x2,x3] t):
  (w.cell? ⟨X,0,none⟩=some x0/\w.cell? ⟨X,1,none⟩=some x1/\w.cell? ⟨X,2,none⟩=some x2/\w.cell? ⟨X,3,none⟩=some x3)/\
  w.frozen? ⟨X,0,none⟩=false/\w.frozen? ⟨X,1,none⟩=false/\w.frozen? ⟨X,2,none⟩=false/\w.frozen? ⟨X,3,none⟩=false:=
 ⟨⟨h.cell 0,h.cell 1,h.cell 2,h.cell 3⟩,h.free 0,h.free 1,h.free 2,h.free 3⟩
theorem eS.vF {x0 x1 x2 x3:Value} (h:eS w X #[x0,x1,x2,x3] t) (y0 y1 y2 y3:Value):
  eS ((((w.setCell ⟨X,0,none⟩ y0).setCell ⟨X,1,none⟩ y1).setCell ⟨X,2,none⟩ y2).setCell ⟨X,3,none⟩ y3) X #[y0,y1,y2,y3] t:=by
 have:=(((h.set 0 y0).set 1 y1).set 2 y2).set 3 y3;simpa using this
theorem fy {P:Program} {fn:Func} {t0 u0:Tmp} {ty:TypeId} (h:fn.results=#[.cell t0 ty, .tmp u0]) (tmps:Array Value) (w:World) {a:Addr} {v:Value} (ht:tmps.getD t0 undef= .pointer (some a))
  (hl:(loadVar ty a).run P w= .ok v w):(results fn tmps).run P w= .ok (.tuple #[v,tmps.getD u0 undef]) w:=by
 have ht':tmps[t0]?.getD undef= .pointer (some a):=by simpa using ht
 simp [results,h,ht',asAddr,hl]
end
end
def jM (w:World) (e:Ending) (w':World):Prop:=e= .returned (.bool true)/\Below w.heap.size w w'
theorem ej {a b c:World} (h:Below a.heap.size a b) (k:Below b.heap.size b c):Below a.heap.size a c:=h.trans (k.mono h.size)
theorem sV {a b:World} {v:Value} (h:ep (eO v) a b) (hv:v.ownBlock=none):Below a.heap.size a b:=h.below (ag _) (fun i hi=>by rw [eO,hv]at hi;cases hi)
theorem eU (n:Nat):1 <=(ff n).length/\(ff n).length <=10:=by
 have h:∀f n,(jV f n).length <=f:=by
  intro f
  induction f with
  | zero=>intro n;simp [jV]
  | succ f ih=>
   intro n;rw [jV];split
   ·simp
   ·have:=ih (n/128)
    simp;omega
 refine⟨?_,h 10 n⟩;rw [ff,jV];split <;>simp
theorem eC.open {w:World} {B:Nat} {v:Value} {l:List UInt8} (h:eC w B v l) (hl:l≠[]):
  ∃g cap,v= .slice (some ⟨g,0,none⟩) l.length cap/\B <=g/\g < w.heap.size/\l.length <=cap/\cap <=maxLen/\(∀i x,l[i]?=some x ->w.cell? ⟨g,i,none⟩=some (bv x))/\∀i,w.frozen? ⟨g,i,none⟩=false:=by
 have hi:=h.gK;obtain⟨h1,h2 | ⟨g,cap,cur,hv,hb,hg,hn,hm,hs,ht⟩⟩:=h
 ·exact absurd (aI h2.2) hl
 ·refine⟨g,cap,hv,hb,(cm.1 hg).1,hn,hm,fun i x hx=>?_,fun i=>dc w g i cur _ hg⟩
  obtain⟨a,c,Si,_,_,hc⟩:=hi;obtain⟨b,off,ha,NS⟩:=hc i x hx;rw [hv]at Si;injection Si with e1 e2 e3;subst e1;injection ha with ha;injection ha with e1 e2;subst e1 e2
  rwa [bT]at NS
def sliceFrom (a:Option Addr) (len cap k:Nat):Value:= .slice (if cap=k then a else a.map (·.add (k*1))) (len - k) (cap - k)
theorem qc (a:Option Addr) (len cap k:Nat) (hk:k <=len) (w:World):
  (Instr.slice 104 (.slice a len cap) (some (.int .i64 k)) none none).run prog w= .ok (sliceFrom a len cap k) w:=by
 have hu:prog.underlying 104=some (.slice 5):=by kernel_rfl
 obtain⟨i0,hi,Po,Oi,O1⟩:=bS pn;simp [Instr.slice,aZ hu,Instr.sliceBounds,Instr.sliceBound,sizeOf,typeInfo,hi,Oi,asIntOf,hk,sliceFrom]
theorem eZ.drop {w:World} {a:Option Addr} {n cap:Nat} {l:List UInt8} (h:eZ w (.slice a n cap) l) (k:Nat) (hk:k <=l.length):eZ w (sliceFrom a n cap k) (l.drop k):=by
 obtain⟨a',NK,hv,h1,h2,h3⟩:=h;injection hv with e1 e2 e3;subst e1 e2 e3;refine⟨_,cap - k,by rw [sliceFrom,bu],by rw [bu];omega,by simp only [maxLen]at*;omega,fun i x hx=>?_⟩;rw [List.getElem?_drop]at hx;obtain⟨b,off,rfl,hc⟩:=h3 _ x hx;have Nu:=(aG.1 hx).1;rw [az (by omega)];refine⟨b,off+k,?_,?_⟩
 ·simp only [bA,aW]
  unfold Addr.add;split <;>simp_all
 ·rw [Nat.add_assoc]
  exact hc
theorem pf (p:List UInt8) (z:UInt8) (rest:List UInt8) (hp:∀y∈p,128 <=y.toNat) (hz:z.toNat < 128):cont (p++z::rest)=p.length:=by
 induction p with
 | nil=>simp [cont];omega
 | cons x p ih=>
  rw [bH,cont,aE (hp x (by simp)),ih (fun y hy=>hp y (by simp [hy]))];rfl
theorem su:∀(f n:Nat),n < 128^(f+1) ->∃p z,jV (f+1) n=p++[z]/\(∀y∈p,128 <=y.toNat)/\z.toNat < 128/\p.length <=f:=by
 intro f
 induction f with
 | zero=>
  intro n h;exact⟨[],b8 n,by rw [jV,aE (by omega)];rfl,by simp,by rw [gZ (by omega)];omega,ag _⟩
 | succ f ih=>
  intro n h;rw [jV];split
  ·exact⟨[],b8 n,rfl,by simp,by rw [gZ (by omega)];omega,by simp⟩
  ·obtain⟨p,z,h1,h2,h3,h4⟩:=ih (n/128) (by rw [Nat.pow_succ]at h;omega)
   refine⟨b8 (n %128+128)::p,z,by rw [h1];rfl,fun y hy=>?_,h3,by simpa using h4⟩;rcases bx.1 hy with rfl | hy
   ·rw [gZ (by omega)]
    omega
   ·exact h2 y hy
theorem qh:∀(f:Nat) (n:Int),-((128:Int)^(f+1)) <=2*n ->2*n < 128^(f+1) ->∃p z,iU (f+1) n=p++[z]/\(∀y∈p,128 <=y.toNat)/\z.toNat < 128/\p.length <=f:=by
 intro f
 induction f with
 | zero=>
  intro n h h';exact⟨[],b8 (n %128).toNat,by rw [iU,aE (by omega)];rfl,by simp,by rw [gZ (by omega)];omega,ag _⟩
 | succ f ih=>
  intro n h h';rw [iU];split
  ·exact⟨[],b8 (n %128).toNat,rfl,by simp,by rw [gZ (by omega)];omega,by simp⟩
  ·rw [bQ,bQ]at h h'
   obtain⟨p,z,h1,h2,h3,h4⟩:=ih (n/128) (by rw [bQ];omega) (by rw [bQ];omega);refine⟨b8 ((n %128).toNat+128)::p,z,by rw [h1];rfl,fun y hy=>?_,h3,by simpa using h4⟩;rcases bx.1 hy with rfl | hy
   ·rw [gZ (by omega)]
    omega
   ·exact h2 y hy
theorem EV {L p q:List UInt8} (hL:L=p++q) (a:Option Addr) (cap:Nat):∃a2 Nr,
  (∀wx,(Instr.slice 104 (.slice a L.length cap) (some (.int .i64 p.length)) none none).run prog wx= .ok (.slice a2 q.length Nr) wx)/\
  ∀wy,eZ wy (.slice a L.length cap) L ->eZ wy (.slice a2 q.length Nr) q:=by
 have hle:p.length <=L.length:=by rw [hL];simp
 have hd:L.drop p.length=q:=by rw [hL];exact df
 have hl:L.length - p.length=q.length:=by rw [hL];simp
 refine⟨if cap=p.length then a else a.map (·.add (p.length*1)),cap - p.length,fun wx=>?_,fun wy h=>?_⟩
 ·rw [qc a L.length cap p.length hle wx,sliceFrom,hl]
 ·have:=h.drop p.length hle
  rw [hd,sliceFrom,hl]at this;exact this
theorem sP:∀(f n:Nat),n < 128^f ->(jV f n).length <=1\/128^((jV f n).length - 1) <=n
 | 0,n,_=>by simp [jV]
 | f+1,n,h=>by
  rw [jV];split
  ·left;simp
  ·rename_i hge
   right
   rcases sP f (n/128) (by rw [Nat.pow_succ]at h;omega)with h1 | h1
   ·have:(b8 (n %128+128)::jV f (n/128)).length - 1 <=1:=by simp;exact h1
    have h2:128^((b8 (n %128+128)::jV f (n/128)).length - 1) <=128^1:=cP (by omega) this;omega
   ·rw [aD,di]
    rcases bq (jV f (n/128)).length with h0 | h0
    ·rw [h0]
     omega
    ·obtain⟨m,hm⟩:∃m,(jV f (n/128)).length=m+1:=⟨_,(Nat.succ_pred_eq_of_pos h0).symm⟩
     rw [hm]at h1⊢;rw [di]at h1;rw [Nat.pow_succ];have:=cO 128 h1;omega
theorem Fv:∀(f:Nat) (n:Int),-((128:Int)^(f+1)) <=2*n ->2*n < 128^(f+1) ->(iU (f+1) n).length=1\/((iU (f+1) n).length≠0/\¬ (-(64*128^((iU (f+1) n).length - 2)) <=n/\n < 64*128^((iU (f+1) n).length - 2))):=by
 intro f
 induction f with
 | zero=>
  intro n h h'
  left
  rw [iU,aE (by omega)];rfl
 | succ f ih=>
  intro n h h';rw [iU];split
  ·left;rfl
  ·rename_i hs
   right
   rw [bQ,bQ]at h h';obtain h1 | h1:=ih (n/128) (by rw [bQ];omega) (by rw [bQ];omega)
   ·rw [aD,h1]
    simp;omega
   ·rw [aD]
    obtain⟨h0,h1⟩:=h1;obtain⟨m,hm⟩:∃m,(iU (f+1) (n/128)).length=m+1:=⟨_,(Nat.succ_pred_eq_of_pos (Nat.pos_of_ne_zero h0)).symm⟩;rw [hm]at h1⊢;refine⟨by omega,?_⟩;rcases bq m with hm0 | hm0
    ·subst hm0
     simp;omega
    ·obtain⟨m',rfl⟩:∃m',m=m'+1:=⟨m - 1,by omega⟩
     rw [show m'+1+1 - 2=m' from by omega]at h1;rw [show m'+1+1+1 - 2=m'+1 from by omega,bQ];omega
theorem DK (l:List UInt8):(bs l).size=l.length:=by simp [bs,ByteArray.size]
theorem ja {P:Program} (w:World) {ops:Array Oper} {rest:List Oper} {o:Oper} {a:Act} {Q:Exit ->Act ->World ->Prop} (P0:o.guard=none) (s x:Operand)
  (hP:P=prog) (ho:o.op= .call {callee:= .builtin .append,args:=#[s,x],argTypes:=#[104,104]})
  (B:Nat) (v:Value) (l:List UInt8) (hs:a.eval s=v) (Nl:eC w B v l)
  (b:Value) (m:List UInt8) (hx:a.eval x=b) (hm:eZ w b m)
  (QK:l.length+m.length <=140737488355327) (NN:B <=w.heap.size)
  (h:∀v' w',eC w' B v' (l++m) ->ep (eO v) w w' ->eQ w v v' ->wpList P ops Q rest (a.put o.dst v') w'):wpList P ops Q (o::rest) a w:=by
 subst hP;obtain⟨i0,hi,Po,Oi,O1⟩:=bS pn;obtain⟨ad,cap,rfl,PV,Ow,hc3⟩:=hm;cases m with
 | nil=>
  have key:∃v' w',(Builtin.append_ #[104,104] o.type #[v, .slice ad 0 cap]).run prog w= .ok v' w'/\eC w' B v' (l++[])/\ep (eO v) w w'/\eQ w v v':=by
   cases ad with
   | some ad=>
    obtain⟨v',w',h1,h2,h3,h4⟩:=uA (P:=prog) w B 104 o.type 5 i0 (.int .u8 0) 1 1 (by kernel_rfl) hi Po Oi O1 rfl (by decide) v l.length (l.map bv) Nl ad 0 cap [] rfl (by simp) (by simp) (by simp only [maxLen];omega) (by omega) NN;exact⟨v',w',h1,by simpa [eC] using h2,h3,h4⟩
   | none=>
    have ht:prog.underlying 104=some (.slice 5):=by kernel_rfl
    rcases Nl.2 with⟨rfl,h0⟩ | ⟨g,NK,cur,rfl,hb,hg,hn,hm,hs,QT⟩
    ·refine⟨.slice none 0 0,w,?_,by simpa using Nl,ep.refl _ _,eQ.refl _ _⟩
     simp [Builtin.append_,aZ ht,sizeOf,typeInfo,hi,Builtin.lenOf,Builtin.firstCells]
    ·refine⟨.slice (some ⟨g,0,none⟩) l.length NK,w,?_,by simpa using Nl,ep.refl _ _,eQ.refl _ _⟩
     simp [Builtin.append_,aZ ht,sizeOf,typeInfo,hi,Builtin.lenOf,Builtin.firstCells,hn];simp [storeCells]
  obtain⟨v',w',hr,h2,h3,h4⟩:=key;refine dU P0 fun _ hK=>?_;unfold Oper.wp execOp;simp only [ho,resolve,invoke,builtin,cK,bX,cB,dA,bF,cL,hs,hx,hr,aH];exact hK _ _ (h v' w' h2 h3 h4)
 | cons y m=>
  obtain⟨b,off,rfl,_⟩:=hc3 0 y rfl;refine ru (P:=prog) w P0 s x 104 ho B 5 i0 (.int .u8 0) 1 1 (by kernel_rfl) hi Po Oi O1 rfl (by decide) v l.length (l.map bv) hs Nl ⟨b,off,none⟩ (y::m).length cap ((y::m).map bv) hx (by simp) ?_ (CH _) (by simp only [maxLen];omega) (by omega) NN ?_
  ·intro j u hu
   rw [cC]at hu;cases hj:(y::m)[j]? with
   | none=>rw [hj]at hu;cases hu
   | some z=>
    rw [hj]at hu;simp at hu;subst hu;obtain⟨b',off',he,hc⟩:=hc3 j z hj;injection he with he;injection he with e1 e2;subst e1 e2;have QS:(⟨b,off,none⟩:Addr).add j=⟨b,off+j,none⟩:=by
     unfold Addr.add;split <;>simp_all
    rw [QS];exact hc
  ·intro v' w' h2 h3 h4
   refine h v' w' ?_ h3 h4;rw [eC,ah,ct];exact h2
section
section
variable {α:Type} {k:Nat} {enc:α ->List Value}
def eA (k:Nat) (enc:α ->List Value) (w:World) (v:Value) (l:List α):Prop:=
 ∃a cap,v= .slice a l.length cap/\l.length <=cap/\cap <=maxLen/\∀i x,l[i]?=some x ->∃b off,a=some ⟨b,off,none⟩/\b < w.heap.size/\∀j u,(enc x)[j]?=some u ->w.cell? ⟨b,off+i*k+j,none⟩=some u
theorem eA.below {w w':World} {v:Value} {l:List α} (h:eA k enc w v l) (hb:Below w.heap.size w w'):eA k enc w' v l:=by
 obtain⟨a,cap,hv,h1,h2,h3⟩:=h;refine⟨a,cap,hv,h1,h2,fun i x hx=>?_⟩;obtain⟨b,off,ha,Nu,hc⟩:=h3 i x hx;exact⟨b,off,ha,bp Nu hb.size,fun j u hu=>by rw [hb.cell Nu];exact hc j u hu⟩
theorem eA.nil (w:World):eA k enc w (.slice none 0 0) []:=⟨none,0,rfl,ag _,by simp [maxLen],by simp⟩
theorem kf (hk:∀x,(enc x).length=k) (l:List α):(l.flatMap enc).length=l.length*k:=by
 induction l with
 | nil=>simp
 | cons e l ih=>simp only [bK,ah,aD,ih,hk];rw [cU,Nat.one_mul,Nat.add_comm]
theorem sH (hk:∀x,(enc x).length=k):∀(l:List α) (i:Nat) (x:α) (j:Nat),l[i]?=some x ->j < k ->(l.flatMap enc)[i*k+j]?=(enc x)[j]?
 | [],i,x,j,h,_=>by simp at h
 | d::l,0,x,j,h,hj=>by
  simp at h;subst h;rw [bK,bD (by rw [hk];omega)];simp
 | d::l,i+1,x,j,h,hj=>by
  rw [bK,bo (by rw [hk,cU];omega)];rw [show(i+1)*k+j - (enc d).length=i*k+j from by rw [hk,cU];omega];exact sH hk l i x j (by simpa using h) hj
def ei (t:TypeId) (k:Nat) (enc:α ->List Value) (w:World) (B:Nat) (v:Value) (l:List α):Prop:=w.ownsRow B t k v l.length (l.flatMap enc)
variable {t:TypeId}
theorem ei.nil (w:World) (B:Nat):ei t k enc w B (.slice none 0 0) []:=World.ownsRow_nil w B _ _
theorem ei.keeps {w w':World} {S:Nat ->Prop} {B:Nat} {v:Value} {l:List α} (h:ei t k enc w B v l) (hk:ep S w w') (hs:∀k,eO v k ->¬ S k):ei t k enc w' B v l:=ng h hk hs
theorem ei.below {w w':World} {B:Nat} {v:Value} {l:List α} (h:ei t k enc w B v l) (hk:Below w.heap.size w w'):ei t k enc w' B v l:=
 ng h (ep.et (S:=fun _=>False) hk) (fun _ _ h=>h)
theorem ei.fT {w:World} {B:Nat} {v:Value} {l:List α} (hk:∀x,(enc x).length=k) (h:ei t k enc w B v l):eA k enc w v l:=by
 obtain⟨hl,hv | ⟨g,cap,cur,hv,hb,hg,hn,hm,hs,ht⟩⟩:=h
 ·obtain⟨rfl,h0⟩:=hv
  obtain rfl:l=[]:=aI h0;exact eA.nil w
 ·refine⟨_,cap,hv,hn,hm,fun i x hx=>⟨g,0,rfl,(cm.1 hg).1,fun j u hu=>?_⟩⟩
  have hj:j < k:=by rw [<- hk x];exact(aG.1 hu).1
  have hi:i < l.length:=(aG.1 hx).1;rw [cell_of_row w g _ cur _ _ hg,bT];have h1:=sH hk l i x j hx hj;rw [<- ht,cZ]at h1;have h2:i*k+j < l.length*k:=by
   have:(i+1)*k <=l.length*k:=cO _ hi;rw [cU]at this;omega
  rw [aE h2]at h1;rw [<- hu, <- h1];simp
theorem fw {P:Program} (w:World) {ops:Array Oper} {rest:List Oper} {o:Oper} {a:Act} {Q:Exit ->Act ->World ->Prop} (P0:o.guard=none) (s x:Operand) (ts:TypeId)
  (ho:o.op= .call {callee:= .builtin .append,args:=#[s,x],argTypes:=#[ts,ts]})
  (z:Value) (bytes:Nat) (ht:P.underlying ts=some (.slice t)) (hi:(P.info? t).map (fun i=>(i.zero,i.size,i.bytes))=some (some z,k,bytes)) (Sh:z.cells.size=k) (h0:0 < k) (O8:bytes <=100000000)
  (B:Nat) (v:Value) (l:List α) (hs:a.eval s=v) (Nl:ei t k enc w B v l)
  (y:α) (cs:Array Value) (Ro:cs=(enc y).toArray) (hk:(enc y).length=k) (h1:∀u∈enc y,u.oneCell'=true) (hx:a.eval x= .slice (some ⟨w.heap.size,0,none⟩) 1 1)
  (QK:l.length <=1000000) (NN:B <=w.heap.size)
  (h:∀v' w',ei t k enc w' B v' (l++[y]) ->ep (eO v) w w' ->eQ w v v' ->wpList P ops Q rest (a.put o.dst v') w'):
  wpList P ops Q (o::rest) a (w.alloc (.cells cs t)):=by
 subst Ro;obtain⟨i0,hi,Po,Oi,O1⟩:=bS hi;refine tC (P:=P) w P0 s x ts ho B t i0 z k bytes ht hi Po Oi O1 Sh h0 v l.length (l.flatMap enc) hs Nl (enc y) hx (by omega) h1 (by simp only [maxLen];omega) ?_ NN ?_
 ·have:(l.length+1)*bytes <=1000001*100000000:=Nat.mul_le_mul (by omega) O8
  omega
 ·intro v' w' h2 h3 h4
  refine h v' w' ?_ h3 h4;simpa [ei] using h2
end
theorem eA.keeps {α:Type} {k:Nat} {enc:α ->List Value} {w w':World} {v:Value} {l:List α} {S:Nat ->Prop} (h:eA k enc w v l) (hk:ep S w w') (hs:∀a n cap,v= .slice (some a) n cap ->¬ S a.block):eA k enc w' v l:=by
 obtain⟨a,cap,hv,h1,h2,h3⟩:=h;refine⟨a,cap,hv,h1,h2,fun i x hx=>?_⟩;obtain⟨b,off,ha,Nu,hc⟩:=h3 i x hx;refine⟨b,off,ha,bp Nu hk.size,fun j u hu=>?_⟩;rw [aY (w:=w) (a:=⟨b,off+i*k+j,none⟩) (hk.block b Nu (by rw [hv,ha]at hs;exact hs _ _ _ rfl))];exact hc j u hu
theorem ei.block {α:Type} {t:TypeId} {k:Nat} {enc:α ->List Value} {w:World} {B:Nat} {u:Value} {l:List α} (h:ei t k enc w B u l):∀a n cap,u= .slice (some a) n cap ->B <=a.block/\a.block < w.heap.size:=by
 intro a n cap he;obtain⟨_,⟨hv,_⟩ | ⟨g,NK,cur,hv,hb,hg,_⟩⟩:=h
 ·rw [hv]at he;cases he
 ·rw [hv]at he
  injection he with e1 e2 e3;injection e1 with e1;subst e1;exact⟨hb,(cm.1 hg).1⟩
end
def DE (s:Int):List UInt8 ->Int
 | []=>s
 | x::l=>(x.toNat %128:Nat)+128*DE s l
def rI (l:List UInt8):Int:=match l.getLast? with
 | some x=>if x.toNat %128 < 64 then 0 else -1
 | none=>0
def Bg (l:List UInt8):Int:=DE (rI l) l
def jD (bits:Int) (l:List UInt8):Int × Nat × Int:=
 if(fu bits l).2≠0 then(0,0,(fu bits l).2)
 else if iG (Bg (l.take (fu bits l).1))=l.take (fu bits l).1/\ -(2^(bits.toNat - 1)) <=Bg (l.take (fu bits l).1)/\Bg (l.take (fu bits l).1) < 2^(bits.toNat - 1)then(Bg (l.take (fu bits l).1),(fu bits l).1,0)
 else(0,0,1)
def M7 (bits:Int) (l:List UInt8) (w:World) (e:Ending) (w':World):Prop:=
 e= .returned (.tuple #[.int .i64 (jD bits l).1, .int .i64 (jD bits l).2.1, .int .i64 (jD bits l).2.2])/\Below w.heap.size w w'
def DD (n:Int):Int:=(n+9223372036854775808) %18446744073709551616 - 9223372036854775808
theorem Lh (a c:Int) (ha:a %128=0) (h0:0 <=c) (h1:c < 128):bits .or .i64 a c=DD (a+c):=by
 unfold bits DD;simp only [IntKind.bits,IntKind.wrap_i64];have e1:(BitVec.ofInt 64 a).toNat=(a %18446744073709551616).toNat:=by simp [BitVec.toNat_ofInt]
 have e2:(BitVec.ofInt 64 c).toNat=c.toNat:=by
  have:(BitVec.ofInt 64 c).toNat=(c %18446744073709551616).toNat:=by simp [BitVec.toNat_ofInt]
  rw [this];omega
 have e3:(BitVec.ofInt 64 a ||| BitVec.ofInt 64 c).toNat=(a %18446744073709551616).toNat+c.toNat:=by
  rw [BitVec.toNat_or,e1,e2,nat_join 7 _ _ (by omega) (by omega)]
 have e4:=cY (fun n:Nat=>((n:Int)+9223372036854775808) %18446744073709551616 - 9223372036854775808) e3;refine Eq.trans e4 ?_;omega
theorem Lp:∀x:Fin 256,x.val&&&64=if x.val %128 < 64 then 0 else 64:=by decide+kernel
theorem Bu (n:Nat) (h:n < 256):bits .and .u8 (n:Int) 64=if n %128 < 64 then 0 else 64:=by
 have h0:=u8_and_nat n 64 h (by omega);rw [Lp ⟨n,h⟩]at h0;refine h0.trans ?_;by_cases h:n %128 < 64
 ·rw [aE h,aE h];rfl
 ·rw [az h,az h];rfl
theorem LC (x:Int) (y:Nat) (hy:y < 256):
  bits .or .i64 (wrap64 (x*128)) (wrap64 (bits .andNot .u8 (y:Int) 128))=DD ((y %128:Nat)+128*x):=by
 rw [Lr y hy];have h2:wrap64 ((y %128:Nat):Int)=((y %128:Nat):Int):=by unfold wrap64;omega
 rw [h2,Lh _ _ (by unfold wrap64;omega) (by omega) (by omega)];unfold wrap64 DD;omega
theorem Hu (c x:Int):DD (c+128*DD x)=DD (c+128*x):=by
 unfold DD;omega
theorem zN {l:List UInt8} {j:Nat} {y:UInt8} (hy:l[j]?=some y):rI (l.take (j+1))=if y.toNat %128 < 64 then 0 else -1:=by
 obtain⟨Nu,he⟩:=aG.1 hy;have:(l.take (j+1)).getLast?=some y:=by
  rw [dP,aP,cq (by omega),di,cZ,aE (by omega),hy]
 rw [rI,this]
theorem Es:∀(f:Nat) (n:Int),-((128:Int)^(f+1)) <=2*n ->2*n < 128^(f+1) ->iU (f+1) n≠[]/\DE (rI (iU (f+1) n)) (iU (f+1) n)=n:=by
 intro f
 induction f with
 | zero=>
  intro n h h';rw [iU,aE (by omega)];refine⟨by simp,?_⟩;simp only [rI,List.getLast?_singleton,DE];rw [gZ (by omega)];split <;>omega
 | succ f ih=>
  intro n h h';rw [iU];split
  ·rename_i hs
   refine⟨by simp,?_⟩;simp only [rI,List.getLast?_singleton,DE];rw [gZ (by omega)];split <;>omega
  ·rename_i hs
   rw [bQ,bQ]at h h';obtain⟨h1,h2⟩:=ih (n/128) (by rw [bQ];omega) (by rw [bQ];omega);refine⟨by simp,?_⟩;have h3:rI (b8 ((n %128).toNat+128)::iU (f+1) (n/128))=rI (iU (f+1) (n/128)):=by
    cases hc:iU (f+1) (n/128)with
    | nil=>exact absurd hc h1
    | cons x l=>simp [rI,dd]
   rw [h3,DE,h2,gZ (by omega)];omega
theorem sM {n:Int} (h: -9223372036854775808 <=n) (h':n < 9223372036854775808):Bg (iG n)=n:=(Es 9 n (by omega) (by omega)).2
theorem pk {x:Int} {n:Nat}:x/2^n=0↔0 <=x/\x < 2^n:=by
 have hp:(0:Int) < 2^n:=Int.pow_pos (by omega)
 constructor
 ·intro h
  have h1:=Int.emod_nonneg x (Int.ne_of_gt hp);have h2:=Int.emod_lt_of_pos x hp;have h3:=Int.mul_ediv_add_emod x (2^n);rw [h]at h3;omega
 ·rintro⟨h1,h2⟩
  exact Int.ediv_eq_zero_of_lt h1 h2
theorem tL {x:Int} {n:Nat}:x/2^n= -1↔-(2^n) <=x/\x < 0:=by
 have hp:(0:Int) < 2^n:=Int.pow_pos (by omega);have e:x/2^n=(x+2^n)/2^n - 1:=by
  have:=Int.add_mul_ediv_right x 1 (Int.ne_of_gt hp);rw [Int.one_mul]at this;omega
 rw [e];have:=@pk (x+2^n) n;omega
theorem Eb {bits:Int} {l:List UInt8} {k:Nat} {x:Int} (he:(fu bits l).2=0) (hk:k=(fu bits l).1) (hx:x=DD (DE (rI (l.take k)) (l.take k)))
  (hs:(l.take k==iG x)=true) (hr:x/2^(bits.toNat - 1)=0\/x/2^(bits.toNat - 1)= -1):jD bits l=(x,k,0):=by
 obtain⟨h1,h2,_⟩:=jm he;have hs':l.take k=iG x:=by simpa using hs
 have hx1: -9223372036854775808 <=x/\x < 9223372036854775808:=by rw [hx];unfold DD;omega
 have hv:Bg (l.take k)=x:=by rw [hs'];exact sM hx1.1 hx1.2
 rw [pk,tL]at hr;have hp:(0:Int) < 2^(bits.toNat - 1):=Int.pow_pos (by omega);rw [jD,az (by rw [he];simp), <- hk,hv,aE ⟨hs'.symm,by omega,by omega⟩]
theorem Ab {bits:Int} {l:List UInt8} {k:Nat} {x:Int} (he:(fu bits l).2=0) (hk:k=(fu bits l).1) (hx:x=DD (DE (rI (l.take k)) (l.take k)))
  (hs:(l.take k==iG x)=false\/¬ (x/2^(bits.toNat - 1)=0\/x/2^(bits.toNat - 1)= -1)):jD bits l=(0,0,1):=by
 obtain⟨h1,h2,_⟩:=jm he;rw [jD,az (by rw [he];simp), <- hk,az];rintro⟨h3,h4,h5⟩;have h6:(2:Int)^(bits.toNat - 1) <=9223372036854775808:=by
  have h7:(2:Nat)^(bits.toNat - 1) <=2^63:=cP (by omega) (by omega);have h8:((2^(bits.toNat - 1):Nat):Int) <=((2^63:Nat):Int):=Int.ofNat_le.2 h7;rw [Int.natCast_pow]at h8;exact h8
 have hv:x=Bg (l.take k):=by
  rw [hx, <- Bg];unfold DD;omega
 rcases hs with h | h
 ·rw [hv,h3,beq_self_eq_true]at h
  cases h
 ·apply h
  rw [pk,tL,hv];omega
theorem F8 {s:Int} {l:List UInt8} {k j:Nat} {y:UInt8} (hy:l[j]?=some y) (hj:j < k):DE s ((l.take k).drop j)=(y.toNat %128:Nat)+128*DE s ((l.take k).drop (j+1)):=by
 have h:(l.take k)[j]?=some y:=by rw [cZ,aE hj];exact hy
 obtain⟨Nu,he⟩:=aG.1 h;rw [cz Nu,DE,he]
def SJ (l:List UInt8) (k:Nat) (w w':World) (x:Int) (i:Nat):Prop:=w'=w/\i <=k/\x=DD (DE (rI (l.take k)) ((l.take k).drop i))
theorem Ed (b:Value) (l:List UInt8) (bits:Int) (w:World) (hb:eZ w b l) (Nx: -9223372036854775808 <=bits) (No:bits <=9223372036854775807):
  Calls prog 311 #[b, .int .i64 bits] w (M7 bits l w):=by
 by_cases he:(fu bits l).2=0
 ·obtain⟨k,hk⟩:∃k,k=(fu bits l).1:=⟨_,rfl⟩
  have HK:=V hk;have Sy:=V hb;obtain⟨NP,OG,P1,Nw,Oo⟩:=jm he;have RE:1 <=k:=by omega
  have N8:k <=l.length:=by omega
  have RP:k <=10:=by omega
  clear P1 Nw Oo;obtain⟨a,cap,rfl,hl,hm,hc⟩:=hb;unfold maxLen at hm;have HC:=V hc;have HE:=V he;clear hc hk he;go_enter func311,ntmps311;go_wp2;refine kF 0 (fun a' w'=>∃(x:Int) (i:Nat) (u8 Tt SX Tu Tv Tw u16 Tx Ty Tz u20 u21 u22 u23 u24 u25 u26 u27 u28 u29 u30 u31 u32 u33 u34 u35 u36 u37 u38 u39 u40 u41 u42 u43 u44 u45 u46 u47 u48 u49 u50 u51 u52 u53 u54 u55 u56 u57 u58 u59 u60 u61 u62:Value),a'={tmps:=#[.slice a l.length cap, .int .i64 bits,undef,undef, .int .i64 0, .int .i64 0, .int .i64 0, .int .i64 k,u8, .int .i64 x, .int .i64 i,Tt,SX,Tu,Tv,Tw,u16,Tx,Ty,Tz,u20,u21,u22,u23,u24,u25,u26,u27,u28,u29,u30,u31,u32,u33,u34,u35,u36,u37,u38,u39,u40,u41,u42,u43,u44,u45,u46,u47,u48,u49,u50,u51,u52,u53,u54,u55,u56,u57,u58,u59,u60,u61,u62],defers:=[]}/\SJ l k w w' x i) (fun a' _=>(intOf (a'.tmps.getD 10 undef)).toNat) rfl ?_ ?_
  ·rintro a' w1 ⟨x,i,u8,Tt,SX,Tu,Tv,Tw,u16,Tx,Ty,Tz,u20,u21,u22,u23,u24,u25,u26,u27,u28,u29,u30,u31,u32,u33,u34,u35,u36,u37,u38,u39,u40,u41,u42,u43,u44,u45,u46,u47,u48,u49,u50,u51,u52,u53,u54,u55,u56,u57,u58,u59,u60,u61,u62,rfl,hJ⟩
   obtain⟨rfl,hik,hx⟩:=hJ;have HX:=V hx;clear hx;by_cases hi:i=0
   ·subst hi
    rw [List.drop_zero]at HX;have PF: -9223372036854775808 <=x/\x <=9223372036854775807:=by rw [HX.out];unfold DD;omega
    have hbt:eZ w1 (.slice a k cap) (l.take k):=Sy.out.take k N8;have HBT:=V hbt;clear hbt;by_cases hs:(l.take k==iG x)=true
    ·by_cases hr:x/2^(bits.toNat - 1)=0
     ·have r1:=eV hr
      have r2:(x/2^(bits.toNat - 1) !=0)=false:=kT hr;have HR:=V hr;clear hr;have HS:=V hs;clear hs;go_wp2_with fail;refine eB (fun _=>True) (up 0 4 ((4,false)::(5,false)::up 6 9 [])) (by kernel_rfl) (by kernel_rfl) trivial ?_;iterate 4 (first | (apply sk rfl rfl;simp only [pt]) | (apply eo rfl rfl rfl;·(intro w' _;go_wp2;exact⟨rfl,rfl,rfl⟩)))
      refine ew rfl rfl ?_;go_wp2_with (go_at_call 297;refine(nG _ [] x PF.1 PF.2 w1.heap.size _ (eC.nil _ _) (by simp) (by simp)).mono ?_;rintro e w2 ⟨v2,rfl,NU,Nw,NC⟩);have No:=fY (Nw.below (ag _) (by intro i hi;cases hi));refine⟨trivial,?_⟩;refine ew rfl rfl ?_;go_wp2_with (go_at_call 282;refine(mC _ _ (l.take k) (iG x) _ (HBT.out.below No) NU.gK).mono ?_;rintro e w3 ⟨rfl,rfl⟩;rw [HS.out]);refine⟨trivial,?_⟩;iterate 9 (first | (apply sk rfl rfl;simp only [pt]) | (apply eo rfl rfl rfl;·(intro w' _;go_wp2;exact⟨rfl,rfl,rfl⟩)))
      refine eW ?_;refine aA ?_;go_wp2;rw [iW]
      go_ret3
      refine⟨?_,No⟩;rw [Eb HE.out HK.out HX.out HS.out (.inl HR.out)];rfl
     by_cases hr':x/2^(bits.toNat - 1)= -1
     ·have r1:=eV hr'
      have r2:(x/2^(bits.toNat - 1) !=0)=true:=fB hr;have r3:(x/2^(bits.toNat - 1) != -1)=false:=kT hr';have HR:=V hr';clear hr hr';have HS:=V hs;clear hs;go_wp2_with fail;refine eB (fun _=>True) (up 0 4 ((4,false)::(5,false)::up 6 9 [])) (by kernel_rfl) (by kernel_rfl) trivial ?_;iterate 4 (first | (apply sk rfl rfl;simp only [pt]) | (apply eo rfl rfl rfl;·(intro w' _;go_wp2;exact⟨rfl,rfl,rfl⟩)))
      refine ew rfl rfl ?_;go_wp2_with (go_at_call 297;refine(nG _ [] x PF.1 PF.2 w1.heap.size _ (eC.nil _ _) (by simp) (by simp)).mono ?_;rintro e w2 ⟨v2,rfl,NU,Nw,NC⟩);have No:=fY (Nw.below (ag _) (by intro i hi;cases hi));refine⟨trivial,?_⟩;refine ew rfl rfl ?_;go_wp2_with (go_at_call 282;refine(mC _ _ (l.take k) (iG x) _ (HBT.out.below No) NU.gK).mono ?_;rintro e w3 ⟨rfl,rfl⟩;rw [HS.out]);refine⟨trivial,?_⟩;iterate 9 (first | (apply sk rfl rfl;simp only [pt]) | (apply eo rfl rfl rfl;·(intro w' _;go_wp2;exact⟨rfl,rfl,rfl⟩)))
      refine eW ?_;refine aA ?_;go_wp2;rw [iW]
      go_ret3
      refine⟨?_,No⟩;rw [Eb HE.out HK.out HX.out HS.out (.inr HR.out)];rfl
     ·have r2:(x/2^(bits.toNat - 1) !=0)=true:=fB hr
      have r3:(x/2^(bits.toNat - 1) != -1)=true:=fB hr';have HR:=V hr;have HR':=V hr';clear hr hr';have HS:=V hs;clear hs;go_wp2_with fail;refine eB (fun _=>True) (up 0 4 ((4,false)::(5,false)::up 6 9 [])) (by kernel_rfl) (by kernel_rfl) trivial ?_;iterate 4 (first | (apply sk rfl rfl;simp only [pt]) | (apply eo rfl rfl rfl;·(intro w' _;go_wp2;exact⟨rfl,rfl,rfl⟩)))
      refine ew rfl rfl ?_;go_wp2_with (go_at_call 297;refine(nG _ [] x PF.1 PF.2 w1.heap.size _ (eC.nil _ _) (by simp) (by simp)).mono ?_;rintro e w2 ⟨v2,rfl,NU,Nw,NC⟩);have No:=fY (Nw.below (ag _) (by intro i hi;cases hi));refine⟨trivial,?_⟩;refine ew rfl rfl ?_;go_wp2_with (go_at_call 282;refine(mC _ _ (l.take k) (iG x) _ (HBT.out.below No) NU.gK).mono ?_;rintro e w3 ⟨rfl,rfl⟩;rw [HS.out]);refine⟨trivial,?_⟩;iterate 9 (first | (apply sk rfl rfl;simp only [pt]) | (apply eo rfl rfl rfl;·(intro w' _;go_wp2;exact⟨rfl,rfl,rfl⟩)))
      refine eW ?_;refine aA ?_;go_wp2;rw [iW]
      go_ret3
      refine⟨?_,No⟩;rw [Ab HE.out HK.out HX.out (.inr (fun h=>h.elim HR.out HR'.out))];rfl
    ·rw [Bool.not_eq_true]at hs
     have HS:=V hs;clear hs;go_wp2_with fail;refine eB (fun _=>True) (up 0 4 ((4,false)::(5,false)::up 6 9 [])) (by kernel_rfl) (by kernel_rfl) trivial ?_;iterate 4 (first | (apply sk rfl rfl;simp only [pt]) | (apply eo rfl rfl rfl;·(intro w' _;go_wp2;exact⟨rfl,rfl,rfl⟩)))
     refine ew rfl rfl ?_;go_wp2_with (go_at_call 297;refine(nG _ [] x PF.1 PF.2 w1.heap.size _ (eC.nil _ _) (by simp) (by simp)).mono ?_;rintro e w2 ⟨v2,rfl,NU,Nw,NC⟩);have No:=fY (Nw.below (ag _) (by intro i hi;cases hi));refine⟨trivial,?_⟩;refine ew rfl rfl ?_;go_wp2_with (go_at_call 282;refine(mC _ _ (l.take k) (iG x) _ (HBT.out.below No) NU.gK).mono ?_;rintro e w3 ⟨rfl,rfl⟩;rw [HS.out]);refine⟨trivial,?_⟩;iterate 9 (first | (apply sk rfl rfl;simp only [pt]) | (apply eo rfl rfl rfl;·(intro w' _;go_wp2;exact⟨rfl,rfl,rfl⟩)))
     refine eW ?_;refine aA ?_;go_wp2;rw [iW]
     go_ret3
     refine⟨?_,No⟩;rw [Ab HE.out HK.out HX.out (.inl HS.out)];rfl
   ·obtain⟨j,rfl⟩:∃j,i=j+1:=⟨i - 1,by omega⟩
    obtain⟨y,hy⟩:∃y,l[j]?=some y:=⟨_,aq (show j < l.length by omega)⟩;obtain⟨b,off,rfl,hc⟩:=HC.out j y hy;have hy8:=y.toNat_lt;have HY:=V hy;clear hy;have Nu:j < l.length:=by omega
    go_wp2_with fail
    go_step3
    simp only [Exit.then];rw [LC x y.toNat hy8];refine lT ⟨_,j,_,_,_,_,_,_,_,_,_,_,_,_,_,_,_,_,_,_,_,_,_,_,_,_,_,_,_,_,_,_,_,_,_,_,_,_,_,_,_,_,_,_,_,_,_,_,_,_,_,_,_,_,_,rfl,rfl,by omega,?_⟩ ?_
    ·rw [F8 HY.out (by omega),HX.out,Hu]
    ·simp [intOf]
  ·intro H
   have Hh:=V H;clear H;obtain⟨y,hy⟩:∃y,l[k - 1]?=some y:=⟨_,aq (show k - 1 < l.length by omega)⟩;obtain⟨b,off,rfl,hc⟩:=HC.out (k - 1) y hy;obtain⟨j,rfl⟩:∃j,k=j+1:=⟨k - 1,by omega⟩;rw [di]at hc;have hy8:=y.toNat_lt;have HY:=V hy;clear hy;have Pp:=Bu y.toNat hy8;have HB6:=V Pp;clear Pp;rcases bz (y.toNat %128) 64 with hy6 | hy6
   ·have r1:(Go.bits .and .u8 (y.toNat:Int) 64 !=0)=false:=by rw [HB6.out,aE hy6];rfl
    go_wp2_with (go_at_call 281;refine(nL _ l _ _ Sy.out (by omega) (by omega)).mono ?_;rintro e w' ⟨rfl,rfl⟩;rw [HE.out, <- HK.out])
    go_step3
    go_step
    go_step
    refine Hh.out _ _ ⟨_,j+1,_,_,_,_,_,_,_,_,_,_,_,_,_,_,_,_,_,_,_,_,_,_,_,_,_,_,_,_,_,_,_,_,_,_,_,_,_,_,_,_,_,_,_,_,_,_,_,_,_,_,_,_,_,rfl,rfl,ag _,?_⟩;rw [List.drop_eq_nil_of_le (by rw [aP];omega),DE,zN (j:=j) HY.out,aE hy6];rfl
   ·have r1:(Go.bits .and .u8 (y.toNat:Int) 64 !=0)=true:=by rw [HB6.out,az (by omega)];rfl
    go_wp2_with (go_at_call 281;refine(nL _ l _ _ Sy.out (by omega) (by omega)).mono ?_;rintro e w' ⟨rfl,rfl⟩;rw [HE.out, <- HK.out])
    go_step3
    go_step
    go_step
    refine Hh.out _ _ ⟨_,j+1,_,_,_,_,_,_,_,_,_,_,_,_,_,_,_,_,_,_,_,_,_,_,_,_,_,_,_,_,_,_,_,_,_,_,_,_,_,_,_,_,_,_,_,_,_,_,_,_,_,_,_,_,_,rfl,rfl,ag _,?_⟩;rw [List.drop_eq_nil_of_le (by rw [aP];omega),DE,zN (j:=j) HY.out,az (by omega)];rfl
 ·have HE:=V he
  have Sy:=V hb;have HB:=V (eh he);clear he hb;go_enter func311,ntmps311;go_wp2
  go_step3
  go_wp2_with (go_at_call 281;refine(nL _ l _ _ Sy.out (by omega) (by omega)).mono ?_;rintro e w' ⟨rfl,rfl⟩;have hb:=HB.out);rw [Exit.noGoto_ret]
  go_ret3
  refine⟨?_,an _ _⟩;rw [jD,aE HE.out];rfl
structure fi where
 kind:Int
 n:Int
deriving DecidableEq
def fR (v:fi):List Value:=[.int .i64 v.kind, .int .i64 v.n]
theorem fK (v:fi):(fR v).length=2:=rfl
theorem lx (v:fi):∀u∈fR v,u.oneCell'=true:=by
 intro u hu;simp only [fR,bx,bI,cH]at hu;rcases hu with rfl | rfl <;>rfl
def fi.ok (v:fi):Prop:=(-9223372036854775808 <=v.kind/\v.kind <=9223372036854775807)/\(-9223372036854775808 <=v.n/\v.n <=9223372036854775807)
def fi.may (v:fi):Prop:=v.kind=2\/v.kind=1/\ -2147483648 <=v.n/\v.n <=2147483647
instance (v:fi):Decidable v.may:=by unfold fi.may;infer_instance
def eL (b:Bool) (w:World) (e:Ending) (w':World):Prop:=e= .returned (.bool b)/\Below w.heap.size w w'
theorem mH (v:fi) (w:World):Calls prog 47 #[.agg #[.int .i64 v.kind, .int .i64 v.n]] w (eL (decide v.may) w):=by
 by_cases q0:v.kind=2
 ·have f0:=eV q0
  have Q0:=V q0;clear q0;rw [show decide v.may=true from ay (.inl Q0.out)];go_enter func47,ntmps47;go_wp2;go_ret;exact⟨rfl,(an _ _).alloc (ag _) _⟩
 have f0:=eh q0;by_cases q1:v.kind=1
 ·have f1:=eV q1
  by_cases q2: -2147483648 <=v.n
  ·have f2:decide (-2147483648 <=v.n)=true:=ay q2
   by_cases q3:v.n <=2147483647
   ·have f3:decide (v.n <=2147483647)=true:=ay (by omega)
    have Q1:=V q1;clear q1 q0;rw [show decide v.may=true from ay (.inr ⟨Q1.out,q2,q3⟩)];go_enter func47,ntmps47;go_wp2;go_ret;exact⟨rfl,(an _ _).alloc (ag _) _⟩
   ·have f3:decide (v.n <=2147483647)=false:=aw (by omega)
    have Q0:=V q0;clear q0 q1;rw [show decide v.may=false from aw (fun h=>h.elim Q0.out (fun h=>q3 h.2.2))];go_enter func47,ntmps47;go_wp2;go_ret;exact⟨rfl,(an _ _).alloc (ag _) _⟩
  ·have f2:decide (-2147483648 <=v.n)=false:=aw q2
   have Q0:=V q0;clear q0 q1;rw [show decide v.may=false from aw (fun h=>h.elim Q0.out (fun h=>q2 h.2.1))];go_enter func47,ntmps47;go_wp2;go_ret;exact⟨rfl,(an _ _).alloc (ag _) _⟩
 ·have f1:=eh q1
  have Q0:=V q0;have Q1:=V q1;clear q0 q1;rw [show decide v.may=false from aw (fun h=>h.elim Q0.out (fun h=>Q1.out h.1))];go_enter func47,ntmps47;go_wp2;go_ret;exact⟨rfl,(an _ _).alloc (ag _) _⟩
def uc {α:Type} (p:α ->Bool) (l:List α):Int:=match l.findIdx? p with | some i=>i | none=> -1
theorem iF {α:Type} {p:α ->Bool} {l:List α} {k:Nat} {e:α} (he:l[k]?=some e) (hn:p e=true) (hb:∀i,i < k ->∀d,l[i]?=some d ->p d=false):uc p l=k:=by
 obtain⟨hk,rfl⟩:=aG.1 he;have:l.findIdx? p=some k:=by
  rw [List.findIdx?_eq_some_iff_getElem];refine⟨hk,hn,fun j hj=>?_⟩;rw [hb j hj _ (aq (by omega))];simp
 rw [uc,this]
theorem ia {α:Type} {p:α ->Bool} {l:List α} (hb:∀i,i < l.length ->∀d,l[i]?=some d ->p d=false):uc p l= -1:=by
 have:l.findIdx? p=none:=by
  rw [List.findIdx?_eq_none_iff];intro x hx;obtain⟨i,hi⟩:=List.mem_iff_getElem?.1 hx;exact hb i (aG.1 hi).1 x hi
 rw [uc,this]
theorem iQ {α:Type} (p:α ->Bool) (l:List α):decide (0 <=uc p l)=l.any p:=by
 unfold uc;cases h:l.findIdx? p with
 | none=>
  rw [List.findIdx?_eq_none_iff]at h;have:l.any p=false:=by rw [dH];intro x hx;rw [h x hx];simp
  rw [this];rfl
 | some i=>
  rw [List.findIdx?_eq_some_iff_getElem]at h;obtain⟨hi,h1,_⟩:=h;have:l.any p=true:=List.any_eq_true.2 ⟨_,List.getElem_mem hi,h1⟩;rw [this];exact ay (by show(0:Int) <=(i:Int);omega)
def kp {α:Type} (p:α ->Bool) (l:List α) (w:World) (e:Ending) (w':World):Prop:=e= .returned (.int .i64 (uc p l))/\Below w.heap.size w w'
def qP {α:Type} (p:α ->Bool) (l:List α) (w w':World) (k:Nat):Prop:=k <=l.length/\(∀i,i < k ->∀d,l[i]?=some d ->p d=false)/\Below w.heap.size w w'
def iw (xs ys:List UInt8) (B:Nat) (b:Value) (w:World) (e:Ending) (w':World):Prop:=
 ∃v',e= .returned v'/\eC w' B v' (xs++ys)/\ep (eO b) w w'/\eQ w b v'
theorem mq (b:Value) (xs:List UInt8) (u:Nat) (h1:u <=9223372036854775807) (B:Nat) (w:World) (Nl:eC w B b xs) (hn:xs.length <=1000000000) (hB:B <=w.heap.size):
  Calls prog 243 #[b, .int .i64 u] w (iw xs (ff u) B b w):=by
 go_enter func243,ntmps243;go_wp2_with fail;refine(jj b xs u (by omega) B w Nl hn hB).mono ?_;rintro x w2 ⟨v,rfl,h2,h3,h4⟩;go_wp2;go_ret;exact⟨v,rfl,h2,h3,h4⟩
def sF (v:fi):List UInt8:=ff v.kind.toNat++iG v.n
def jU (l:List fi):List UInt8:=ff l.length++(l.map sF).flatten
theorem uL {n:Int} (h1: -9223372036854775808 <=n) (h2:n <=9223372036854775807):1 <=(iG n).length/\(iG n).length <=10:=by
 obtain⟨p,z,e1,_,_,e4⟩:=qh 9 n (by omega) (by omega);change iG n=p++[z]at e1;rw [e1];simp;omega
theorem II {v:fi} (h:v.ok):(sF v).length <=20:=by
 have h1:=(eU v.kind.toNat).2;have h2:=(uL h.2.1 h.2.2).2;rw [sF,ah];omega
theorem oN:∀l:List fi,(∀v∈l,v.ok) ->((l.map sF).flatten).length <=20*l.length
 | [],_=>by simp
 | v::l,h=>by
  have h1:=II (h v (by simp));have h2:=oN l (fun x hx=>h x (by simp [hx]));simp only [bF,bO,ah,aD];omega
def Mm (xs:List UInt8) (l:List fi) (B:Nat) (b:Value) (w w':World) (v:Value) (k:Nat):Prop:=
 k <=l.length/\eC w' B v (xs++(ff l.length++((l.take k).map sF).flatten))/\ep (eO b) w w'/\eQ w b v
theorem tJ (b:Value) (xs:List UInt8) (vl:Value) (l:List fi) (B:Nat) (w:World) (Nl:eC w B b xs) (hn:xs.length <=100000) (hB:B <=w.heap.size)
  (hl:eA 2 fR w vl l) (hm:∀v∈l,v.may) (Nt:∀v∈l,v.ok) (QL:l.length <=1000) (hvb:l≠[] ->∀i,eO b i ->∀a n c,vl= .slice (some a) n c ->a.block≠i):
  Calls prog 244 #[b,vl] w (iw xs (jU l) B b w):=by
 have HI:=V hl;have Oj:=V Nt;have HM:=V hm;have HVB:=V hvb;obtain⟨a,cap,rfl,h1,h2,_⟩:=hl;unfold maxLen at h2;clear Nt hm hvb;go_enter func244,ntmps244;go_wp2_with fail;refine(mq b xs l.length (by omega) B w Nl (by omega) hB).mono ?_;rintro x w1 ⟨v,rfl,ho,hk,hs⟩;go_wp2_with fail;refine eR (fun a' w'=>∃(v:Value) (k:Nat),a'=fr (v:: .slice a l.length cap::gs a' 2 9 (.slice a l.length cap:: .int .i64 l.length:: .int .i64 k::gs a' 14 12 []))/\Mm xs l B b w w' v k) (fun a' _=>(l.length - (intOf (a'.tmps.getD 13 undef)).toNat)) ?_ ?_
 ·exact⟨v,0,rfl,by omega,by simpa using ho,hk,hs⟩
 ·clear ho hk hs
  rintro R a' w1 ⟨v,k,Nm,hJ⟩ HR;dsimp only [fr,gs]at Nm;generalize slot a'=f at Nm;subst Nm;obtain⟨N8,ho,hk,hs⟩:=hJ;have Oc:=hk.size;by_cases Nu:k < l.length
  ·obtain⟨e,he⟩:∃e,l[k]?=some e:=⟨_,aq Nu⟩
   obtain⟨a',NK,hv,_,_,Nk⟩:=HI.out;injection hv with e1 e2 e3;subst e1 e3;obtain⟨bb,off,rfl,O3,hc⟩:=Nk k e he;have Ox:¬ eO b bb:=fun h=>HVB.out (by rintro rfl;simp at Nu) bb h _ _ _ rfl rfl;have NS:∀j u,(fR e)[j]?=some u ->w1.cell? ⟨bb,off+k*2+j,none⟩=some u:=fun j u hu=>by
    rw [aY (w:=w) (a:=⟨bb,off+k*2+j,none⟩) (hk.block bb O3 Ox)];exact hc j u hu
   have c0:=NS 0 _ rfl;have c1:=NS 1 _ rfl;rw [aJ]at c0;have hme:=HM.out e (aN he);obtain⟨⟨m1,m2⟩,m3,m4⟩:=Oj.out e (aN he);obtain⟨n0,QM⟩:∃n:Nat,e.kind=n:=⟨e.kind.toNat,by rcases hme with h | h <;>omega⟩;have hn2:n0 <=2:=by rcases hme with h | h <;>omega
   rw [QM]at m1 m2 c0;have hlen:(xs++(ff l.length++((l.take k).map sF).flatten)).length <=200000:=by
    have g1:=(eU l.length).2;have g2:=oN (l.take k) (fun x hx=>Oj.out x (cF hx));have g3:(l.take k).length <=1000:=by rw [aP];omega
    simp only [ah];omega
   have HV:=V (show sF e=ff n0++iG e.n by rw [sF,QM];rfl);have HE:=V he;generalize hL:xs++(ff l.length++((l.take k).map sF).flatten)=L at ho hlen;have HL:=V hL;clear hL Nk hc NS e2 he hme QM;have Pd:∀i,eO v i ->i≠w1.heap.size:=fun i hi=>by have:=(eM ho hi).2;omega
   have HX0:=V Pd;clear Pd;go_wp2_with fail;refine eB (fun w'=>w'.cell? ⟨w1.heap.size,0,none⟩=some (.int .i64 n0)/\w'.cell? ⟨w1.heap.size,1,none⟩=some (.int .i64 e.n)) (up 0 3 ((4,true)::(5,true)::(3,false)::(6,false)::(7,true)::[])) (by kernel_rfl) (by kernel_rfl) ⟨by simp,by simp⟩ ?_;iterate 5 (first | (apply sk rfl rfl;simp only [pt]) | (apply eo rfl rfl rfl;·(rintro w' ⟨t0,t1⟩;go_wp2;exact⟨rfl,rfl,rfl⟩)))
   refine ew rfl rfl ?_;go_wp2_with fail;have P1:ep (eO v) w1 (w1.alloc (.cells #[.int .i64 n0, .int .i64 e.n] 52)).drew:=((ep.refl _ _).alloc _).drew;have OA:eS (w1.alloc (.cells #[.int .i64 n0, .int .i64 e.n] 52)).drew w1.heap.size #[.int .i64 n0, .int .i64 e.n] 52:=(eS.new w1 _ _).drew;refine(mq v L n0 (by omega) B _ (ho.keeps (((ep.refl (fun _=>False) w1).alloc _).drew) (fun _ _ h=>h)) (by omega) (by simp;have:=(ep.refl (eO v) w1);omega)).mono ?_;rintro x w2 ⟨v2,rfl,NU,Nw,NC⟩;have PG:=OA.keeps Nw (fun h=>HX0.out _ h rfl);have hn1:(ff n0).length <=10:=(eU _).2;go_wp2_with fail;refine⟨⟨PG.cell 0,PG.cell 1⟩,?_⟩;refine ew rfl rfl ?_;have Qp:=Nw.size;simp only [World.size_drew,aC]at Qp;go_wp2_with fail;refine(nG v2 _ e.n m3 m4 B w2 NU (by simp only [ah];omega) (by omega)).mono ?_;rintro x w3 ⟨v3,rfl,O9,Oo,PW⟩;have Sz:=PG.keeps Oo (fun h=>by
    rcases NC _ h with g | g
    ·exact HX0.out _ g rfl
    ·simp at g
     omega)
   have S6:ep (eO v) w1 w2:=P1.trans Nw (fun i h=> .inl h);have hs12:eQ w1 v v2:=fun i hi=>(NC i hi).imp id (fun g=>by simp at g;omega);have S7:ep (eO v) w1 w3:=S6.trans Oo (fun i h=>(hs12 i h));have hs13:eQ w1 v v3:=hs12.trans PW S6.size;have hkf:ep (eO b) w w3:=hk.trans S7 (fun i h=>(hs i h));have hsf:eQ w b v3:=hs.trans hs13 hk.size;clear Nw NC Oo PW S6 hs12 S7 hs13 P1 OA PG;go_wp2_with fail;refine⟨⟨Sz.cell 0,Sz.cell 1⟩,?_⟩;iterate 1 (first | (apply sk rfl rfl;simp only [pt]) | (apply eo rfl rfl rfl;·(rintro w' ⟨t0,t1⟩;go_wp2;exact⟨rfl,rfl,rfl⟩)))
   refine eW ?_;refine aA ?_;go_wp2;refine HR.out _ _ ⟨v3,k+1,rfl,by omega,?_,hkf,hsf⟩ ?_
   ·have e1:xs++(ff l.length++((l.take (k+1)).map sF).flatten)=L++ff n0++iG e.n:=by
     rw [<- HL.out,aR,HE.out];simp [HV.out]
    rw [e1];exact O9
   ·simp [intOf]
    omega
  ·obtain rfl:k=l.length:=by omega
   go_wp2;go_ret;refine⟨v,rfl,?_,hk,hs⟩;rw [aU]at ho;exact ho
theorem Cy (u:Nat) (rest:List UInt8) (hu:u < 4611686018427387904):iB 62 (ff u++rest)=(u,(ff u).length,0):=by
 obtain⟨p,z,h1,h2,h3,h4⟩:=su 9 u (by omega);change ff u=p++[z]at h1;have hp:p.length <=8:=by
  rcases sP 10 u (by omega)with h | h
  ·change(ff u).length <=1 at h
   rw [h1]at h;simp at h;simp [h]
  ·change 128^((ff u).length - 1) <=u at h
   rw [h1,ah,aB,di]at h;rcases bz 8 p.length with g | g
   ·have:(128:Nat)^9 <=128^p.length:=cP (by omega) g
    omega
   ·exact g
 have hl:fu 62 (ff u++rest)=((ff u).length,0):=by
  rw [h1,aL,dJ];unfold fu;rw [az (by omega),pf p z rest h2 h3,az (by omega),az (by simp)];simp
 unfold iB;rw [hl,az (by simp)];have ht:(ff u++rest).take (ff u).length=ff u:=cN;simp only [ht];rw [tu (by omega),aE ⟨rfl,by simpa using hu⟩]
theorem sO {l:List UInt8} (h:(iB 62 l).2.2=0):∃u rest,u < 4611686018427387904/\l=ff u++rest/\iB 62 l=(u,(ff u).length,0):=by
 unfold iB at h⊢;by_cases h1:(fu 62 l).2≠0
 ·rw [aE h1]at h
  exact absurd h h1
 ·rw [az h1]at h⊢
  by_cases h2:ff (oU (l.take (fu 62 l).1))=l.take (fu 62 l).1/\oU (l.take (fu 62 l).1) < 2^(62:Int).toNat
  ·rw [aE h2]
   obtain⟨_,_,k1,k2,_⟩:=jm (dI.1 h1);refine⟨_,l.drop (fu 62 l).1,by simpa using h2.2,by rw [h2.1,cE],?_⟩;rw [h2.1,aP,cq (by omega)]
  ·rw [az h2]at h
   cases h
theorem wK (n:Int) (rest:List UInt8) (h0: -9223372036854775808 <=n) (h1:n <=9223372036854775807):jD 64 (iG n++rest)=(n,(iG n).length,0):=by
 obtain⟨p,z,e1,e2,e3,e4⟩:=qh 9 n (by omega) (by omega);change iG n=p++[z]at e1;have hl:fu 64 (iG n++rest)=((iG n).length,0):=by
  rw [e1,aL,dJ];unfold fu;rw [az (by omega),pf p z rest e2 e3,az (by omega),az (by simp)];simp
 unfold jD;rw [hl,az (by simp)];have ht:(iG n++rest).take (iG n).length=iG n:=cN;simp only [ht];have h2:n < 9223372036854775808:=by omega
 rw [sM h0 h2,aE ⟨rfl,h0,h2⟩]
theorem yE {l:List UInt8} (h:(jD 64 l).2.2=0):∃(n:Int) (rest:List UInt8),(-9223372036854775808 <=n/\n <=9223372036854775807)/\l=iG n++rest/\jD 64 l=(n,(iG n).length,0):=by
 unfold jD at h⊢;by_cases h1:(fu 64 l).2≠0
 ·rw [aE h1]at h
  exact absurd h h1
 ·rw [az h1]at h⊢
  split at h
  ·rename_i h2
   rw [aE h2];obtain⟨_,_,k1,k2,_⟩:=jm (dI.1 h1);refine⟨_,l.drop (fu 64 l).1,?_,by rw [h2.1,cE],?_⟩
   ·have:=h2.2
    simp at this;omega
   ·rw [h2.1,aP,cq (by omega)]
  ·cases h
def fS:Option (List UInt8) ->Nat × Option (List UInt8)
 | none=>(0,none)
 | some l=>if(iB 62 l).2.2=0 then((iB 62 l).1,some (l.drop (iB 62 l).2.1))else(0,none)
def oc:Option (List UInt8) ->Int × Option (List UInt8)
 | none=>(0,none)
 | some l=>if(jD 64 l).2.2=0 then((jD 64 l).1,some (l.drop (jD 64 l).2.1))else(0,none)
theorem yG (l:List UInt8):fS (some l)=if(iB 62 l).2.2=0 then((iB 62 l).1,some (l.drop (iB 62 l).2.1))else(0,none):=rfl
theorem yf (l:List UInt8):oc (some l)=if(jD 64 l).2.2=0 then((jD 64 l).1,some (l.drop (jD 64 l).2.1))else(0,none):=rfl
theorem ku (u:Nat) (r:List UInt8) (hu:u < 4611686018427387904):fS (some (ff u++r))=(u,some r):=by
 simp only [fS,Cy u r hu,cT,df]
theorem IA (n:Int) (r:List UInt8) (h0: -9223372036854775808 <=n) (h1:n <=9223372036854775807):oc (some (iG n++r))=(n,some r):=by
 simp only [oc,wK n r h0 h1,cT,df]
def ph:Option (List UInt8) ->Nat
 | none=>0
 | some l=>l.length+1
theorem uG (l:List UInt8):ph (fS (some l)).2+1 <=ph (some l):=by
 rw [yG];split
 ·rename_i h
  obtain⟨u,r,_,hl,hr⟩:=sO h;have:=(eU u).1;have h2:=cY List.length hl;rw [ah]at h2;simp only [hr,ph,bu];omega
 ·simp [ph]
theorem nF (st:Option (List UInt8)):ph (fS st).2 <=ph st:=by
 cases st with
 | none=>simp [fS]
 | some l=>have:=uG l;omega
theorem Jw (st:Option (List UInt8)):ph (oc st).2 <=ph st:=by
 cases st with
 | none=>simp [oc]
 | some l=>
  rw [yf];split
  ·simp only [ph,bu]
   omega
  ·simp [ph]
theorem mg (st:Option (List UInt8)):(fS st).1 < 4611686018427387904:=by
 cases st with
 | none=>simp [fS]
 | some l=>
  rw [yG];split
  ·rename_i h
   obtain⟨u,r,hu,_,hr⟩:=sO h;simp only [hr];exact hu
  ·simp
theorem Jz (st:Option (List UInt8)): -9223372036854775808 <=(oc st).1/\(oc st).1 <=9223372036854775807:=by
 cases st with
 | none=>simp [oc]
 | some l=>
  rw [yf];split
  ·rename_i h
   obtain⟨n,r,hn,_,hr⟩:=yE h;simp only [hr];exact hn
  ·simp
def Rd (B0:Nat) (w:World) (R:Nat) (st:Option (List UInt8)):Prop:=
 ∃a n cap,eS w R #[.slice a n cap, .bool st.isNone] 302/\∃l,(l≠[] ->∀ad,a=some ad ->ad.block < B0)/\eZ w (.slice a n cap) l/\∀l',st=some l' ->l'=l
theorem oY {L p q:List UInt8} (hL:L=p++q) (a:Option Addr) (cap:Nat):∃a2 Nr,
  (∀wx,(Instr.slice 104 (.slice a L.length cap) (some (.int .i64 p.length)) none none).run prog wx= .ok (.slice a2 q.length Nr) wx)/\
  (∀wy,eZ wy (.slice a L.length cap) L ->eZ wy (.slice a2 q.length Nr) q)/\∀ad,a2=some ad ->∃ad0,a=some ad0/\ad.block=ad0.block:=by
 have hle:p.length <=L.length:=by rw [hL];simp
 have hd:L.drop p.length=q:=by rw [hL];exact df
 have hl:L.length - p.length=q.length:=by rw [hL];simp
 refine⟨if cap=p.length then a else a.map (·.add (p.length*1)),cap - p.length,fun wx=>?_,fun wy h=>?_,fun ad h=>?_⟩
 ·rw [qc a L.length cap p.length hle wx,sliceFrom,hl]
 ·have:=h.drop p.length hle
  rw [hd,sliceFrom,hl]at this;exact this
 ·split at h
  ·exact⟨ad,h,rfl⟩
  ·cases a with
   | none=>cases h
   | some a0=>
    injection h with h;subst h;refine⟨a0,rfl,?_⟩;unfold Addr.add;split <;>rfl
theorem eZ.off {w w':World} {v:Value} {l:List UInt8} {R:Nat} {a:Option Addr} {n cap:Nat} {b:Bool} {t:TypeId} (h:eZ w v l) (hb:eS w R #[.slice a n cap, .bool b] t) (hk:ep (fun i=>i=R) w w'):eZ w' v l:=by
 obtain⟨a',NK,hv,h1,h2,h3⟩:=h;refine⟨a',NK,hv,h1,h2,fun i x hx=>?_⟩;obtain⟨g,off,ha,hc⟩:=h3 i x hx;refine⟨g,off,ha,?_⟩;have Nu:=aO w _ hc;have Ox:g≠R:=by
  rintro rfl;have OL:=hb.cell (off+i);rw [hc]at OL
  match off+i,OL with
  | 0,OL=>simp at OL
  | 1,OL=>simp at OL
  | n+2,OL=>simp at OL
 rw [aY (w:=w) (a:=⟨g,off+i,none⟩) (hk.block g Nu Ox)];exact hc
theorem Rd.below {B0:Nat} {w w':World} {R:Nat} {st:Option (List UInt8)} (h:Rd B0 w R st) (hk:Below w.heap.size w w'):Rd B0 w' R st:=by
 obtain⟨a,n,cap,hb,l,hB,hl,hs⟩:=h;exact⟨a,n,cap,hb.below hk hb.lt,l,hB,hl.below hk,hs⟩
theorem Rd.keeps {B0:Nat} {w w':World} {R:Nat} {st:Option (List UInt8)} {S:Nat ->Prop} (h:Rd B0 w R st) (hk:ep S w w') (hR:¬ S R) (hS:∀i,S i ->B0 <=i):Rd B0 w' R st:=by
 obtain⟨a,n,cap,hb,l,hB,⟨a',NK,hv,h1,h2,h3⟩,hs⟩:=h;injection hv with e1 e2 e3;subst e1 e2 e3;refine⟨a,_,cap,hb.keeps hk hR,l,hB,⟨a,cap,rfl,h1,h2,fun i x hx=>?_⟩,hs⟩;obtain⟨b,off,ha,hc⟩:=h3 i x hx;refine⟨b,off,ha,?_⟩;have Nu:=aO w _ hc;have NG:b < B0:=hB (by rintro rfl;simp at hx) _ ha;rw [aY (w:=w) (a:=⟨b,off+i,none⟩) (hk.block b Nu (fun h=>by have:=hS b h;omega))];exact hc
theorem ui {w:World} {R:Nat} (i:Nat) (v:Value):ep (fun k=>k=R) w (w.setCell ⟨R,i,none⟩ v):=
 ⟨rfl,rfl,rfl,by simp,fun k _ hk=>cM w ⟨R,i,none⟩ v k hk⟩
def LA (B0 R:Nat) (st:Option (List UInt8)) (w:World) (e:Ending) (w':World):Prop:=
 e= .returned (.int .i64 (fS st).1)/\Rd B0 w' R (fS st).2/\ep (fun k=>k=R) w w'
def K4 (B0 R:Nat) (st:Option (List UInt8)) (w:World) (e:Ending) (w':World):Prop:=
 e= .returned (.int .i64 (oc st).1)/\Rd B0 w' R (oc st).2/\ep (fun k=>k=R) w w'
theorem kA (B0 R:Nat) (st:Option (List UInt8)) (w:World) (hr:Rd B0 w R st):Calls prog 242 #[.pointer (some ⟨R,0,none⟩)] w (LA B0 R st w):=by
 obtain⟨a,n,cap,ND,l,hB0,hl,NH⟩:=hr;obtain⟨a',NK,hv,h1,h2,_⟩:=id hl;injection hv with e1 e2 e3;subst e1 e2 e3;unfold maxLen at h2;have hRl:=ND.lt;have c0:w.cell? ⟨R,0,none⟩=some (.slice a l.length cap):=ND.cell 0;have c1:w.cell? ⟨R,1,none⟩=some (.bool st.isNone):=ND.cell 1;have Oq:=V ND;have HL:=V hl;have HS:=V NH;have RF:=V hB0;clear ND hl NH hB0;cases st with
 | none=>
  go_enter func242,ntmps242;go_wp2_with fail;refine(wW _ l 62 _ HL.out (by omega) (by omega)).mono ?_;rintro x w1 ⟨rfl,hb⟩;have ND:=Oq.out.below hb hRl;have hl:=HL.out.below hb;have z0:=ND.free 0;have z1:=ND.free 1;have c0:w1.cell? ⟨R,0,none⟩=some (.slice a l.length cap):=ND.cell 0;have c1:w1.cell? ⟨R,1,none⟩=some (.bool true):=ND.cell 1;have Pu:=V ND;have S8:=V hl;clear ND hl;go_wp2;go_ret;have Nx:=Pu.out.set 1 (.bool true);refine⟨rfl,⟨a,l.length,cap,by have h:=Nx;simp at h;exact h,l,RF.out,S8.out.off Pu.out (ui _ _),fun l' h=>by cases h⟩,(ep.et hb).trans (ui _ _) (fun i h=> .inl h)⟩
 | some l0=>
  obtain rfl:=HS.out l0 rfl;by_cases hu:(iB 62 l0).2.2=0
  ·obtain⟨u,r,hu1,TA,NO⟩:=sO hu
   obtain⟨a3,OH,S9,hi3,hi4⟩:=oY TA a cap;have hle:=cY List.length TA;rw [ah]at hle;have hle2:(ff u).length <=l0.length:=by omega
   have HI3:=V hi3;have HR:=V (show fS (some l0)=(u,some r)by simp only [fS,NO,cT,eg,true_and,aS];rw [TA];exact df);have HI4:=V hi4;have SA:=V TA;clear hi3 hi4 hu hle TA;go_enter func242,ntmps242;go_wp2_with fail;refine(wW _ l0 62 _ HL.out (by omega) (by omega)).mono ?_;rintro x w1 ⟨rfl,hb⟩;rw [NO];have ND:=Oq.out.below hb hRl;have hl:=HL.out.below hb;have z0:=ND.free 0;have z1:=ND.free 1;have c0:w1.cell? ⟨R,0,none⟩=some (.slice a l0.length cap):=ND.cell 0;have c1:w1.cell? ⟨R,1,none⟩=some (.bool false):=ND.cell 1;have Pu:=V ND;have S8:=V hl;clear ND hl NO;go_wp2;go_ret;have Nx:=(Pu.out.set 1 (.bool false)).set 0 (.slice a3 r.length OH);have OT:ep (fun k=>k=R) w1 ((w1.setCell ⟨R,1,none⟩ (.bool false)).setCell ⟨R,0,none⟩ (.slice a3 r.length OH)):=(ui 1 _).trans (ui 0 _) (fun i h=> .inl h);refine⟨by rw [HR.out];rfl,?_,(ep.et hb).trans OT (fun i h=> .inl h)⟩;rw [HR.out];exact⟨a3,r.length,OH,by simpa using Nx,r,fun Ox ad h=>(by obtain⟨ad0,g1,g2⟩:=HI4.out ad h;rw [g2];exact RF.out (by rw [SA.out];intro g;exact Ox (dE.1 g).2) _ g1),(HI3.out _ S8.out).off Pu.out OT,fun l' h=>by injection h with h;exact h.symm⟩
  ·have HR:=V (show fS (some l0)=(0,none)by simp only [fS];rw [az hu])
   obtain⟨x,k,err,hr⟩:∃x k err,iB 62 l0=(x,k,err):=⟨_,_,_,rfl⟩;have f1:(err !=0)=true:=fB (fun h=>hu (by rw [hr];exact h));clear hu;go_enter func242,ntmps242;go_wp2_with fail;refine(wW _ l0 62 _ HL.out (by omega) (by omega)).mono ?_;rintro x w1 ⟨rfl,hb⟩;rw [hr];have ND:=Oq.out.below hb hRl;have hl:=HL.out.below hb;have z0:=ND.free 0;have z1:=ND.free 1;have c0:w1.cell? ⟨R,0,none⟩=some (.slice a l0.length cap):=ND.cell 0;have c1:w1.cell? ⟨R,1,none⟩=some (.bool false):=ND.cell 1;have Pu:=V ND;have S8:=V hl;clear ND hl hr;go_wp2;go_ret;have Nx:=Pu.out.set 1 (.bool true);refine⟨by rw [HR.out];rfl,?_,(ep.et hb).trans (ui _ _) (fun i h=> .inl h)⟩;rw [HR.out];exact⟨a,l0.length,cap,by simpa using Nx,l0,RF.out,S8.out.off Pu.out (ui _ _),fun l' h=>by cases h⟩
theorem IC (B0 R:Nat) (st:Option (List UInt8)) (w:World) (hr:Rd B0 w R st):Calls prog 296 #[.pointer (some ⟨R,0,none⟩)] w (K4 B0 R st w):=by
 obtain⟨a,n,cap,ND,l,hB0,hl,NH⟩:=hr;obtain⟨a',NK,hv,h1,h2,_⟩:=id hl;injection hv with e1 e2 e3;subst e1 e2 e3;unfold maxLen at h2;have hRl:=ND.lt;have c0:w.cell? ⟨R,0,none⟩=some (.slice a l.length cap):=ND.cell 0;have c1:w.cell? ⟨R,1,none⟩=some (.bool st.isNone):=ND.cell 1;have Oq:=V ND;have HL:=V hl;have HS:=V NH;have RF:=V hB0;clear ND hl NH hB0;cases st with
 | none=>
  go_enter func296,ntmps296;go_wp2_with fail;refine(Ed _ l 64 _ HL.out (by omega) (by omega)).mono ?_;rintro x w1 ⟨rfl,hb⟩;have ND:=Oq.out.below hb hRl;have hl:=HL.out.below hb;have z0:=ND.free 0;have z1:=ND.free 1;have c0:w1.cell? ⟨R,0,none⟩=some (.slice a l.length cap):=ND.cell 0;have c1:w1.cell? ⟨R,1,none⟩=some (.bool true):=ND.cell 1;have Pu:=V ND;have S8:=V hl;clear ND hl;go_wp2;go_ret;have Nx:=Pu.out.set 1 (.bool true);refine⟨rfl,⟨a,l.length,cap,by have h:=Nx;simp at h;exact h,l,RF.out,S8.out.off Pu.out (ui _ _),fun l' h=>by cases h⟩,(ep.et hb).trans (ui _ _) (fun i h=> .inl h)⟩
 | some l0=>
  obtain rfl:=HS.out l0 rfl;by_cases hu:(jD 64 l0).2.2=0
  ·obtain⟨u,r,hu1,TA,NO⟩:=yE hu
   obtain⟨a3,OH,S9,hi3,hi4⟩:=oY TA a cap;have hle:=cY List.length TA;rw [ah]at hle;have hle2:(iG u).length <=l0.length:=by omega
   have HI3:=V hi3;have HR:=V (show oc (some l0)=(u,some r)by simp only [oc,NO,cT,eg,true_and,aS];rw [TA];exact df);have HI4:=V hi4;have SA:=V TA;clear hi3 hi4 hu hle TA;go_enter func296,ntmps296;go_wp2_with fail;refine(Ed _ l0 64 _ HL.out (by omega) (by omega)).mono ?_;rintro x w1 ⟨rfl,hb⟩;rw [NO];have ND:=Oq.out.below hb hRl;have hl:=HL.out.below hb;have z0:=ND.free 0;have z1:=ND.free 1;have c0:w1.cell? ⟨R,0,none⟩=some (.slice a l0.length cap):=ND.cell 0;have c1:w1.cell? ⟨R,1,none⟩=some (.bool false):=ND.cell 1;have Pu:=V ND;have S8:=V hl;clear ND hl NO;go_wp2;go_ret;have Nx:=(Pu.out.set 1 (.bool false)).set 0 (.slice a3 r.length OH);have OT:ep (fun k=>k=R) w1 ((w1.setCell ⟨R,1,none⟩ (.bool false)).setCell ⟨R,0,none⟩ (.slice a3 r.length OH)):=(ui 1 _).trans (ui 0 _) (fun i h=> .inl h);refine⟨by rw [HR.out];rfl,?_,(ep.et hb).trans OT (fun i h=> .inl h)⟩;rw [HR.out];exact⟨a3,r.length,OH,by simpa using Nx,r,fun Ox ad h=>(by obtain⟨ad0,g1,g2⟩:=HI4.out ad h;rw [g2];exact RF.out (by rw [SA.out];intro g;exact Ox (dE.1 g).2) _ g1),(HI3.out _ S8.out).off Pu.out OT,fun l' h=>by injection h with h;exact h.symm⟩
  ·have HR:=V (show oc (some l0)=(0,none)by simp only [oc];rw [az hu])
   obtain⟨x,k,err,hr⟩:∃x k err,jD 64 l0=(x,k,err):=⟨_,_,_,rfl⟩;have f1:(err !=0)=true:=fB (fun h=>hu (by rw [hr];exact h));clear hu;go_enter func296,ntmps296;go_wp2_with fail;refine(Ed _ l0 64 _ HL.out (by omega) (by omega)).mono ?_;rintro x w1 ⟨rfl,hb⟩;rw [hr];have ND:=Oq.out.below hb hRl;have hl:=HL.out.below hb;have z0:=ND.free 0;have z1:=ND.free 1;have c0:w1.cell? ⟨R,0,none⟩=some (.slice a l0.length cap):=ND.cell 0;have c1:w1.cell? ⟨R,1,none⟩=some (.bool false):=ND.cell 1;have Pu:=V ND;have S8:=V hl;clear ND hl hr;go_wp2;go_ret;have Nx:=Pu.out.set 1 (.bool true);refine⟨by rw [HR.out];rfl,?_,(ep.et hb).trans (ui _ _) (fun i h=> .inl h)⟩;rw [HR.out];exact⟨a,l0.length,cap,by simpa using Nx,l0,RF.out,S8.out.off Pu.out (ui _ _),fun l' h=>by cases h⟩
def rh:Nat ->Option (List UInt8) ->List fi × Option (List UInt8)
 | 0,st=>([],st)
 | _+1,none=>([],none)
 | n+1,some l=>(⟨(fS (some l)).1,(oc (fS (some l)).2).1⟩::(rh n (oc (fS (some l)).2).2).1,(rh n (oc (fS (some l)).2).2).2)
def jf (st:Option (List UInt8)):List fi × Option (List UInt8):=rh (fS st).1 (fS st).2
theorem CJ (n:Nat):rh n none=([],none):=by cases n <;>rfl
theorem yL:∀(l:List fi) (r:List UInt8),(∀v∈l,v.may/\v.ok) ->rh l.length (some ((l.map sF).flatten++r))=(l,some r)
 | [],r,_=>rfl
 | v::l,r,h=>by
  obtain⟨hm,hk⟩:=h v (by simp);have h0:0 <=v.kind/\v.kind <=2:=by rcases hm with g | g <;>omega
  have e1:((v::l).map sF).flatten++r=ff v.kind.toNat++(iG v.n++((l.map sF).flatten++r)):=by simp [sF]
  have e2:((v.kind.toNat:Nat):Int)=v.kind:=by omega
  rw [e1,aD,rh,ku _ _ (by omega)];simp only [IA v.n _ hk.2.1 hk.2.2,yL l r (fun x hx=>h x (by simp [hx])),e2]
theorem xP (l:List fi) (r:List UInt8) (h:∀v∈l,v.may/\v.ok) (hl:l.length <=1000000):jf (some (jU l++r))=(l,some r):=by
 rw [jf,jU,aL,ku _ _ (by omega)];exact yL l r h
def Kp (B0 Rb:Nat) (st:Option (List UInt8)) (w:World) (e:Ending) (w':World):Prop:=
 ∃v,e= .returned v/\ei 52 2 fR w' w.heap.size v (jf st).1/\(∀x∈(jf st).1,x.ok)/\(jf st).1.length+ph (jf st).2 <=ph st/\Rd B0 w' Rb (jf st).2/\ep (fun k=>k=Rb) w w'
def Ma (B0 Rb:Nat) (st0:Option (List UInt8)) (w w':World) (v:Value) (acc:List fi) (n:Nat) (st:Option (List UInt8)):Prop:=
 jf st0=(acc++(rh n st).1,(rh n st).2)/\ei 52 2 fR w' w.heap.size v acc/\(∀x∈acc,x.ok)/\acc.length+ph st <=ph st0/\Rd B0 w' Rb st/\ep (fun k=>k=Rb) w w'/\n < 4611686018427387904
theorem jB:(prog.info? 52).map (fun i=>(i.zero,i.size,i.bytes))=some (some (.agg #[.int .i64 0, .int .i64 0]),2,16):=by kernel_rfl
theorem xS (B0 Rb:Nat) (st:Option (List UInt8)) (w:World) (hr:Rd B0 w Rb st) (hl:ph st <=500000) (hB0:B0 <=w.heap.size):Calls prog 241 #[.pointer (some ⟨Rb,0,none⟩)] w (Kp B0 Rb st w):=by
 have hR:Rb < w.heap.size:=by obtain⟨_,_,_,hb,_,_⟩:=hr;exact hb.lt
 go_enter func241,ntmps241;go_wp2_with fail;refine(kA B0 Rb st w hr).mono ?_;rintro x w1 ⟨rfl,RQ,P1⟩;go_wp2_with fail;refine eR (fun a' w'=>∃(v:Value) (acc:List fi) (n:Nat) (s:Option (List UInt8)),a'=fr (.pointer (some ⟨Rb,0,none⟩)::gs a' 1 2 (v:: .int .i64 n::gs a' 5 22 []))/\Ma B0 Rb st w w' v acc n s) (fun a' _=>(intOf (a'.tmps.getD 4 undef)).toNat) ?_ ?_
 ·exact⟨_,[],(fS st).1,(fS st).2,rfl,by simp [jf],ei.nil _ _,by simp,by have:=nF st;simpa using this,RQ,P1,mg st⟩
 ·clear P1 RQ
  rintro R a' w1 ⟨v,acc,n,s,Nm,hJ⟩ HR;dsimp only [fr,gs]at Nm;generalize slot a'=f at Nm;subst Nm;obtain⟨hv,ho,Nt,hlen,Pa,hk,hn⟩:=hJ;have Oe:=V Pa;obtain⟨ar,nr,RT,ND,_⟩:=Pa;have c1:w1.cell? ⟨Rb,1,none⟩=some (.bool s.isNone):=ND.cell 1;have HV:=V hv;have Oj:=V Nt;have Oc:=hk.size;clear hv Nt ND;rcases bq n with QM | QM
  ·subst QM
   go_wp2;go_ret;have h1:=HV.out;rw [rh,bR]at h1;refine⟨v,rfl,?_,?_,?_,?_,hk⟩
   ·rw [h1];exact ho
   ·rw [h1];exact Oj.out
   ·rw [h1];exact hlen
   ·rw [h1];exact Oe.out
  have f0:decide ((0:Int) < (n:Int))=true:=ay (by omega);cases s with
  | none=>
   have c1:w1.cell? ⟨Rb,1,none⟩=some (.bool true):=c1;go_wp2;go_ret;have h1:=HV.out;rw [CJ,bR]at h1;refine⟨v,rfl,?_,?_,?_,?_,hk⟩
   ·rw [h1];exact ho
   ·rw [h1];exact Oj.out
   ·rw [h1];exact hlen
   ·rw [h1];exact Oe.out
  | some l=>
   have c1:w1.cell? ⟨Rb,1,none⟩=some (.bool false):=c1;have hnot:∀i,eO v i ->¬ i=Rb:=fun i hi=>by have:=(eM ho hi).1;omega
   have OC:=uG l;have NC:=Jw (fS (some l)).2;have hn1:=mg (some l);obtain⟨Rp,Pv⟩:=Jz (fS (some l)).2;have O4:acc.length <=500000:=by omega
   have HS:=V (show acc.length+1+ph (oc (fS (some l)).2).2 <=ph st by omega);have HNT:=V hnot;clear OC NC hlen hnot;go_wp2_with fail;refine(kA B0 Rb (some l) w1 Oe.out).mono ?_;rintro x w2 ⟨rfl,P7,Nw⟩;have SB:=V P7;clear Oe P7 c1;go_wp2_with fail;refine(IC B0 Rb _ w2 SB.out).mono ?_;rintro x w3 ⟨rfl,S9,Oo⟩;have S7:ep (fun k=>k=Rb) w1 w3:=Nw.trans Oo (fun i h=> .inl h);have O9:ei 52 2 fR w3 w.heap.size v acc:=ho.keeps S7 HNT.out;have Qq:=S7.size;obtain⟨n',rfl⟩:∃n',n=n'+1:=⟨n - 1,by omega⟩;have HRD3:=V S9;clear SB S9 Nw Oo;generalize Pd:(fS (some l)).1=x0 at hn1;generalize hy0:(oc (fS (some l)).2).1=y0 at Rp Pv;have HX:=V Pd;have HY:=V hy0;clear Pd hy0;go_wp2_with (first | (at_builtin;refine Stop.out ?_));change wpList _ _ _ _ _ _;refine fw w3 rfl _ _ 47 rfl _ 16 (by kernel_rfl) jB rfl (by decide) (by decide) w.heap.size v acc rfl O9 ⟨x0,y0⟩ _ rfl rfl (lx _) rfl (by omega) (by omega) ?_;intro v4 w4 OM QF O2;have hRd4:Rd B0 w4 Rb (oc (fS (some l)).2).2:=HRD3.out.keeps QF (fun h=>HNT.out _ h rfl) (fun i hi=>by have:=(eM O9 hi).1;omega);have hk14:ep (fun k=>k=Rb) w w4:=(hk.trans S7 (fun i h=> .inl h)).trans QF (fun i h=> .inr (eM O9 h).1);clear QF O2 S7 hk ho O9;go_wp2;refine HR.out _ _ ⟨v4,acc++[⟨x0,y0⟩],n',(oc (fS (some l)).2).2,rfl,?_,OM,?_,?_,hRd4,hk14,by omega⟩ ?_
   ·rw [HV.out,rh,HX.out,HY.out]
    simp
   ·intro z hz
    rcases bU.1 hz with h | h
    ·exact Oj.out z h
    ·obtain rfl:=aV.1 h
     exact⟨⟨by show(-9223372036854775808:Int) <=(x0:Int);omega,by show(x0:Int) <=9223372036854775807;omega⟩,Rp,Pv⟩
   ·rw [ah]
    exact HS.out
   ·simp [intOf]
structure lA where
 pos:Int
 fb:Int
deriving DecidableEq
def kP (l:lA):List Value:=[.int .i64 l.pos, .int .i64 l.fb]
theorem mF (l:lA):(kP l).length=2:=rfl
theorem Bf (l:lA):∀u∈kP l,u.oneCell'=true:=by
 intro u hu;simp only [kP,bx,bI,cH]at hu;rcases hu with rfl | rfl <;>rfl
structure fg where
 fn:Int
 pc:Int
 locals:List fi
 base:Int
 labels:List lA
deriving DecidableEq
def mK (x:fg × Value × Value):List Value:=[.int .i64 x.1.fn, .int .i64 x.1.pc,x.2.1, .int .i64 x.1.base,x.2.2]
theorem iP (x:fg × Value × Value):(mK x).length=5:=rfl
structure fP where
 eu:List fi
 ez:List fg
 asks:Int
deriving DecidableEq
def iV (n:Int):Prop:= -9223372036854775808 <=n/\n <=9223372036854775807
def lA.ok (l:lA):Prop:=iV l.pos/\iV l.fb
def fg.ok (f:fg):Prop:=iV f.fn/\iV f.pc/\iV f.base/\(∀v∈f.locals,v.ok)/\∀l∈f.labels,l.ok
def fP.ok (s:fP):Prop:=iV s.asks/\(∀v∈s.eu,v.ok)/\∀f∈s.ez,f.ok
def gu (w:World) (v:Value) (l:List fg):Prop:=
 ∃us:List (Value × Value),us.length=l.length/\eA 5 mK w v (l.zip us)/\
  (∀(i:Nat) (f:fg) (u:Value × Value),l[i]?=some f ->us[i]?=some u ->eA 2 fR w u.1 f.locals/\eA 2 kP w u.2 f.labels)/\∀f∈l,f.ok
theorem gu.below {w w':World} {v:Value} {l:List fg} (h:gu w v l) (hb:Below w.heap.size w w'):gu w' v l:=by
 obtain⟨us,h1,h2,h3,h4⟩:=h;exact⟨us,h1,h2.below hb,fun i c u hc hu=>⟨(h3 i c u hc hu).1.below hb,(h3 i c u hc hu).2.below hb⟩,h4⟩
theorem gu.nil (w:World):gu w (.slice none 0 0) []:=⟨[],rfl,eA.nil w,by simp,by simp⟩
theorem gu.slice {w:World} {v:Value} {l:List fg} (h:gu w v l):∃a cap,v= .slice a l.length cap/\l.length <=cap/\cap <=9223372036854775807:=by
 obtain⟨us,h1,⟨a,cap,hv,h2,h3,_⟩,_⟩:=h;have:(l.zip us).length=l.length:=by rw [bV,h1,cV]
 rw [this]at hv h2;exact⟨a,cap,hv,h2,h3⟩
theorem gu.get {w:World} {a:Option Addr} {n cap:Nat} {l:List fg} (h:gu w (.slice a n cap) l) {k:Nat} {f:fg} (hf:l[k]?=some f):∃b off u x,a=some ⟨b,off,none⟩/\b < w.heap.size/\
  (w.cell? ⟨b,off+k*5,none⟩=some (.int .i64 f.fn)/\w.cell? ⟨b,off+k*5+1,none⟩=some (.int .i64 f.pc)/\w.cell? ⟨b,off+k*5+2,none⟩=some u/\w.cell? ⟨b,off+k*5+3,none⟩=some (.int .i64 f.base)/\
   w.cell? ⟨b,off+k*5+4,none⟩=some x)/\eA 2 fR w u f.locals/\eA 2 kP w x f.labels/\f.ok:=by
 obtain⟨us,h1,⟨a',NK,hv,_,_,h2⟩,h3,h4⟩:=h;injection hv with e1 e2 e3;subst e1;have hk:k < us.length:=by rw [h1];exact(aG.1 hf).1
 have hu:=aq hk;have hz:(l.zip us)[k]?=some (f,us[k]):=(cI (z:=(f,us[k]))).2 ⟨hf,hu⟩;obtain⟨b,off,ha,Nu,NS⟩:=h2 k _ hz;obtain⟨g1,g2⟩:=h3 k f _ hf hu;exact⟨b,off,us[k].1,us[k].2,ha,Nu,⟨NS 0 _ rfl,NS 1 _ rfl,NS 2 _ rfl,NS 3 _ rfl,NS 4 _ rfl⟩,g1,g2,h4 f (aN hf)⟩
def jP (w:World) (uv uf:Value) (s:fP):Prop:=eA 2 fR w uv s.eu/\gu w uf s.ez/\s.ok
theorem jP.below {w w':World} {uv uf:Value} {s:fP} (h:jP w uv uf s) (hb:Below w.heap.size w w'):jP w' uv uf s:=⟨h.1.below hb,h.2.1.below hb,h.2.2⟩
def pW (n:Int):Bool:=decide (n < 0) || decide (10000 < n)
theorem lL {n:Int}:pW n=false↔0 <=n/\n <=10000:=by
 simp only [pW,dw,decide_eq_false_iff_not];omega
theorem xU {n:Int}:pW n=true↔¬ (0 <=n/\n <=10000):=by
 rw [<- lL];simp
def lA.may (l:lA):Prop:=(0 <=l.pos/\l.pos <=10000)/\(0 <=l.fb/\l.fb <=10000)
instance (l:lA):Decidable l.may:=by unfold lA.may;infer_instance
def fg.may (f:fg):Prop:=
 (∀l∈f.labels,l.may)/\f.labels.length <=40/\f.locals.length <=32/\(∀v∈f.locals,v.may)/\(0 <=f.fn/\f.fn <=10000)/\(0 <=f.pc/\f.pc <=10000)/\(0 <=f.base/\f.base <=10000)
instance (f:fg):Decidable f.may:=by unfold fg.may;infer_instance
def fP.may (s:fP):Prop:=s.eu.length <=1000/\s.ez.length <=32/\ -1 <=s.asks/\s.asks <=10000/\(∀v∈s.eu,v.may)/\∀f∈s.ez,f.may
instance (s:fP):Decidable s.may:=by unfold fP.may;infer_instance
def pY (l:lA):List UInt8:=ff l.pos.toNat++ff l.fb.toNat
def DI (l:List lA):List UInt8:=ff l.length++(l.map pY).flatten
def pe (f:fg):List UInt8:=jU f.locals++ff f.fn.toNat++ff f.pc.toNat++ff f.base.toNat++DI f.labels
def iA (l:List fg):List UInt8:=(l.map pe).flatten
def jd (s:fP):List UInt8:=jU s.eu++ff (s.asks+1).toNat++ff s.ez.length++iA s.ez
theorem wG:∀l:List lA,((l.map pY).flatten).length <=20*l.length
 | []=>by simp
 | e::l=>by
  have h1:=(eU e.pos.toNat).2;have h2:=(eU e.fb.toNat).2;have h3:=wG l;simp only [bF,bO,ah,aD,pY]at*;omega
theorem Dd {f:fg} (hm:f.may) (ho:f.ok):(pe f).length <=1600:=by
 have h0:=(eU f.fn.toNat).2;have h1:=(eU f.pc.toNat).2;have h2:=(eU f.base.toNat).2;have h3:=(eU f.locals.length).2;have h4:=oN f.locals ho.2.2.2.1;have h5:=(eU f.labels.length).2;have h6:=wG f.labels;have h7:=hm.2.1;have h8:=hm.2.2.1;simp only [pe,jU,DI,ah];omega
theorem qj:∀l:List fg,(∀f∈l,f.may/\f.ok) ->(iA l).length <=1600*l.length
 | [],_=>by simp [iA]
 | f::l,h=>by
  have h1:=Dd (h f (by simp)).1 (h f (by simp)).2;have h2:=qj l (fun x hx=>h x (by simp [hx]));simp only [iA,bF,bO,ah,aD]at*;omega
theorem Am (a b:List fg):iA (a++b)=iA a++iA b:=by simp [iA]
def oB:Nat ->Option (List UInt8) ->List lA × Option (List UInt8)
 | 0,st=>([],st)
 | _+1,none=>([],none)
 | n+1,some l=>(⟨(fS (some l)).1,(fS (fS (some l)).2).1⟩::(oB n (fS (fS (some l)).2).2).1,(oB n (fS (fS (some l)).2).2).2)
theorem CQ (n:Nat):oB n none=([],none):=by cases n <;>rfl
def oR (st:Option (List UInt8)):fg × Option (List UInt8):=
 (⟨(fS (jf st).2).1,(fS (fS (jf st).2).2).1,(jf st).1,(fS (fS (fS (jf st).2).2).2).1,
  (oB (fS (fS (fS (fS (jf st).2).2).2).2).1 (fS (fS (fS (fS (jf st).2).2).2).2).2).1⟩,
  (oB (fS (fS (fS (fS (jf st).2).2).2).2).1 (fS (fS (fS (fS (jf st).2).2).2).2).2).2)
def kl:Nat ->Option (List UInt8) ->List fg × Option (List UInt8)
 | 0,st=>([],st)
 | _+1,none=>([],none)
 | n+1,some l=>((oR (some l)).1::(kl n (oR (some l)).2).1,(kl n (oR (some l)).2).2)
theorem yS (n:Nat):kl n none=([],none):=by cases n <;>rfl
def rB (st:Option (List UInt8)):fP × Option (List UInt8):=
 (⟨(jf st).1,(kl (fS (fS (jf st).2).2).1 (fS (fS (jf st).2).2).2).1,(fS (jf st).2).1 - 1⟩,(kl (fS (fS (jf st).2).2).1 (fS (fS (jf st).2).2).2).2)
theorem yH:∀(l:List lA) (r:List UInt8),(∀e∈l,e.may) ->oB l.length (some ((l.map pY).flatten++r))=(l,some r)
 | [],r,_=>rfl
 | e::l,r,h=>by
  obtain⟨⟨h0,h1⟩,h2,h3⟩:=h e (by simp);have e1:((e::l).map pY).flatten++r=ff e.pos.toNat++(ff e.fb.toNat++((l.map pY).flatten++r)):=by simp [pY]
  have g1:((e.pos.toNat:Nat):Int)=e.pos:=by omega
  have g2:((e.fb.toNat:Nat):Int)=e.fb:=by omega
  rw [e1,aD,oB,ku _ _ (by omega)];simp only [ku e.fb.toNat _ (by omega),yH l r (fun x hx=>h x (by simp [hx])),g1,g2]
theorem CE (f:fg) (r:List UInt8) (hm:f.may) (ho:f.ok):oR (some (pe f++r))=(f,some r):=by
 obtain⟨m1,m2,m3,m4,⟨m5,m6⟩,⟨m7,m8⟩,m9,m10⟩:=hm;have e1:pe f++r=jU f.locals++(ff f.fn.toNat++(ff f.pc.toNat++(ff f.base.toNat++(ff f.labels.length++((f.labels.map pY).flatten++r))))):=by simp [pe,DI]
 have g1:((f.fn.toNat:Nat):Int)=f.fn:=by omega
 have g2:((f.pc.toNat:Nat):Int)=f.pc:=by omega
 have g3:((f.base.toNat:Nat):Int)=f.base:=by omega
 have h0:∀r,jf (some (jU f.locals++r))=(f.locals,some r):=fun r=>xP _ r (fun v hv=>⟨m4 v hv,ho.2.2.2.1 v hv⟩) (by omega);have h1:∀r,fS (some (ff f.fn.toNat++r))=(f.fn.toNat,some r):=fun r=>ku _ r (by omega);have h2:∀r,fS (some (ff f.pc.toNat++r))=(f.pc.toNat,some r):=fun r=>ku _ r (by omega);have h3:∀r,fS (some (ff f.base.toNat++r))=(f.base.toNat,some r):=fun r=>ku _ r (by omega);have h4:∀r,fS (some (ff f.labels.length++r))=(f.labels.length,some r):=fun r=>ku _ r (by omega);have h5:oB f.labels.length (some ((f.labels.map pY).flatten++r))=(f.labels,some r):=yH _ r m1;rw [e1,oR];simp only [h0,h1,h2,h3,h4,h5,g1,g2,g3]
theorem tS:∀(l:List fg) (r:List UInt8),(∀f∈l,f.may/\f.ok) ->kl l.length (some (iA l++r))=(l,some r)
 | [],r,_=>rfl
 | f::l,r,h=>by
  obtain⟨hm,hk⟩:=h f (by simp);have e1:iA (f::l)++r=pe f++(iA l++r):=by simp [iA]
  rw [e1,aD,kl,CE f _ hm hk];simp only [tS l r (fun x hx=>h x (by simp [hx]))]
theorem nv (s:fP) (hm:s.may) (ho:s.ok):rB (some (jd s))=(s,some []):=by
 obtain⟨m1,m2,m3,m4,m5,m6⟩:=hm;have e1:jd s=jU s.eu++(ff (s.asks+1).toNat++(ff s.ez.length++(iA s.ez++[]))):=by simp [jd]
 have g1:(((s.asks+1).toNat:Nat):Int) - 1=s.asks:=by omega
 have h0:∀r,jf (some (jU s.eu++r))=(s.eu,some r):=fun r=>xP _ r (fun v hv=>⟨m5 v hv,ho.2.1 v hv⟩) (by omega);have h1:∀r,fS (some (ff (s.asks+1).toNat++r))=((s.asks+1).toNat,some r):=fun r=>ku _ r (by omega);have h2:∀r,fS (some (ff s.ez.length++r))=(s.ez.length,some r):=fun r=>ku _ r (by omega);have h3:kl s.ez.length (some (iA s.ez++[]))=(s.ez,some []):=tS _ _ (fun f hf=>⟨m6 f hf,ho.2.2 f hf⟩);rw [e1,rB];simp only [h0,h1,h2,h3,g1]
theorem Ci {a b:fP} (ha:a.may) (hao:a.ok) (hb:b.may) (N3:b.ok) (h:jd a=jd b):a=b:=by
 have h1:=nv a ha hao;have h2:=nv b hb N3;rw [h,h2]at h1;injection h1 with h1 _;exact h1.symm
theorem xK (s:fP):jd s≠[]:=by
 intro h;simp only [jd,jU,dE]at h;have:=(eU s.eu.length).1;rw [h.1.1.1.1]at this;simp at this
theorem CN {s:fP} (h:s.may) (ho:s.ok):1 <=(jd s).length/\(jd s).length <=100000:=by
 have g1:=eU s.eu.length;have g2:=oN s.eu ho.2.1;have g3:=(eU (s.asks+1).toNat).2;have g4:=(eU s.ez.length).2;have g5:=qj s.ez (fun f hf=>⟨h.2.2.2.2.2 f hf,ho.2.2 f hf⟩);have g6:=h.1;have g7:=h.2.1;simp only [jd,jU,ah];omega
theorem xz (v:fi) (w:World):Calls prog 299 #[.agg #[.int .i64 v.kind, .int .i64 v.n]] w (eL (!decide v.may) w):=by
 go_enter func299,ntmps299;go_wp2_with fail;refine(mH v _).mono ?_;rintro e w2 ⟨rfl,hb⟩;replace hb:=((an w.heap.size w).alloc (ag _) _).trans (hb.mono (by simp));go_wp2;go_ret;exact⟨rfl,hb⟩
def wv (v:fi):Bool:= !decide v.may
theorem CR (v:Value) (l:List fi) (w:World) (hl:eA 2 fR w v l):
  Calls prog 312 #[v, .func (.func 299) #[] #[]] w (kp wv l w):=by
 have HI:=V hl;obtain⟨a,cap,rfl,h1,h2,_⟩:=hl;unfold maxLen at h2;go_enter func312,ntmps312;go_wp2_with fail;refine eR (fun a' w'=>∃(k:Nat),a'=fr (.slice a l.length cap:: .func (.func 299) #[] #[]::gs a' 2 5 (.int .i64 l.length:: .int .i64 k::gs a' 9 10 []))/\qP wv l w w' k) (fun a' _=>(l.length - (intOf (a'.tmps.getD 8 undef)).toNat)) ?_ ?_
 ·exact⟨0,rfl,by omega,fun i hi=>by omega,an _ _⟩
 ·skip
  rintro R a' w1 ⟨k,Nm,hJ⟩ HR;dsimp only [fr,gs]at Nm;generalize slot a'=f at Nm;subst Nm;obtain⟨hk,hm,hb⟩:=hJ;have N1:=V hm;clear hm;by_cases N8:k < l.length
  ·obtain⟨e,he⟩:∃e,l[k]?=some e:=⟨_,aq N8⟩
   obtain⟨a',NK,hv,_,_,Nk⟩:=HI.out.below (hb.mono (ag _));injection hv with e1 e2 e3;subst e1 e3;obtain⟨b,off,rfl,Nu,hc⟩:=Nk k e he;have c0:=hc 0 _ rfl;have c1:=hc 1 _ rfl;rw [aJ]at c0;have HE:=V he;clear Nk e2 he hc;have Nv:=xz e w1;cases hq:wv e
   all_goals
    rw [show(!decide e.may)=wv e from rfl,hq]at Nv;have HQ:=V hq;clear hq;go_wp2_with fail;refine Nv.mono ?_;rintro x w2 ⟨rfl,No⟩;replace hb:=ej hb No;clear Nv c0 c1 No;go_wp2_with fail
   ·refine HR.out _ _ ⟨k+1,rfl,by omega,?_,hb⟩ ?_
    ·intro i hi d hd
     rcases bz i k with h | h
     ·exact N1.out i h d hd
     ·obtain rfl:i=k:=by omega
      rw [HE.out]at hd;injection hd with hd;rw [<- hd];exact HQ.out
    ·simp [intOf]
     omega
   ·go_ret
    exact⟨by rw [iF HE.out HQ.out N1.out];rfl,hb⟩
  ·obtain rfl:k=l.length:=by omega
   go_wp2;go_ret;exact⟨by rw [ia N1.out];rfl,hb⟩
theorem Cq (v:Value) (l:List fi) (w:World) (hl:eA 2 fR w v l):
  Calls prog 298 #[v, .func (.func 299) #[] #[]] w (eL (l.any wv) w):=by
 go_enter func298,ntmps298;go_wp2_with fail;refine(CR v l _ hl).mono ?_;rintro x w2 ⟨rfl,hb⟩;go_wp2;go_ret;exact⟨by rw [<- iQ];rfl,hb⟩
theorem xx (n:Int) (w:World):Calls prog 302 #[.int .i64 n] w (eL (pW n) w):=by
 by_cases q0:n < 0
 ·have f0:decide (n < 0)=true:=ay q0
  have HB:=V (show pW n=true by rw [pW,f0];rfl);go_enter func302,ntmps302;go_wp2;go_ret;exact⟨by rw [HB.out];rfl,an _ _⟩
 have f0:decide (n < 0)=false:=aw q0;by_cases q1:10000 < n
 ·have f1:decide (10000 < n)=true:=ay q1
  have HB:=V (show pW n=true by rw [pW,f0,f1];rfl);go_enter func302,ntmps302;go_wp2;go_ret;exact⟨by rw [HB.out];rfl,an _ _⟩
 ·have f1:decide (10000 < n)=false:=aw q1
  have HB:=V (show pW n=false by rw [pW,f0,f1];rfl);go_enter func302,ntmps302;go_wp2;go_ret;exact⟨by rw [HB.out];rfl,an _ _⟩
def fk (n:Int):List Value:=[.int .i64 n]
theorem CZ (v:Value) (l:List Int) (w:World) (hl:eA 1 fk w v l):
  Calls prog 112 #[v, .func (.func 302) #[] #[]] w (kp pW l w):=by
 have HI:=V hl;have hl':=hl;obtain⟨a,cap,rfl,h1,h2,_⟩:=hl';unfold maxLen at h2;clear hl;go_enter func112,ntmps112;go_wp2_with fail;refine eR (fun a' w'=>∃(k:Nat),a'=fr (.slice a l.length cap:: .func (.func 302) #[] #[]::gs a' 2 5 (.int .i64 l.length:: .int .i64 k::gs a' 9 10 []))/\qP pW l w w' k) (fun a' _=>(l.length - (intOf (a'.tmps.getD 8 undef)).toNat)) ?_ ?_
 ·exact⟨0,rfl,by omega,fun i hi=>by omega,an _ _⟩
 ·skip
  rintro R a' w1 ⟨k,Nm,hJ⟩ HR;dsimp only [fr,gs]at Nm;generalize slot a'=f at Nm;subst Nm;obtain⟨hk,hm,hb⟩:=hJ;have N1:=V hm;clear hm;by_cases N8:k < l.length;rotate_left
  ·obtain rfl:k=l.length:=by omega
   go_wp2;go_ret;exact⟨by rw [ia N1.out];rfl,hb⟩
  obtain⟨e,he⟩:∃e,l[k]?=some e:=⟨_,aq N8⟩;obtain⟨a',NK,hv,_,_,Nk⟩:=HI.out.below (hb.mono (ag _));injection hv with e1 e2 e3;subst e1 e3;obtain⟨b,off,rfl,Nu,hc⟩:=Nk k e he;have c0:=hc 0 _ rfl;rw [aJ,aW]at c0;have HE:=V he;clear Nk e2 he hc;have Nv:=xx e w1;cases hq:pW e
  all_goals
   rw [hq]at Nv;have HQ:=V hq;clear hq;go_wp2_with fail;refine Nv.mono ?_;rintro x w2 ⟨rfl,No⟩;replace hb:=ej hb No;clear Nv No;go_wp2_with fail
  ·refine HR.out _ _ ⟨k+1,rfl,by omega,?_,hb⟩ ?_
   ·intro i hi d hd
    rcases bz i k with h | h
    ·exact N1.out i h d hd
    ·obtain rfl:i=k:=by omega
     rw [HE.out]at hd;injection hd with hd;rw [<- hd];exact HQ.out
   ·simp [intOf]
    omega
  ·go_ret
   exact⟨by rw [iF HE.out HQ.out N1.out];rfl,hb⟩
theorem At (v:Value) (l:List Int) (w:World) (hl:eA 1 fk w v l):
  Calls prog 75 #[v, .func (.func 302) #[] #[]] w (eL (l.any pW) w):=by
 go_enter func75,ntmps75;go_wp2_with fail;refine(CZ v l _ hl).mono ?_;rintro x w2 ⟨rfl,hb⟩;go_wp2;go_ret;exact⟨by rw [<- iQ];rfl,hb⟩
theorem xZ (v:Value) (l:List Int) (w:World) (hl:eA 1 fk w v l):Calls prog 250 #[v] w (eL (!l.any pW) w):=by
 go_enter func250,ntmps250;go_wp2_with fail;refine(At v l _ hl).mono ?_;rintro x w2 ⟨rfl,hb⟩;go_wp2;go_ret;exact⟨rfl,hb⟩
theorem wo (v:Value) (l:List fi) (w:World) (hl:eA 2 fR w v l):Calls prog 245 #[v] w (eL (!l.any wv) w):=by
 go_enter func245,ntmps245;go_wp2_with fail;refine(Cq v l _ hl).mono ?_;rintro x w2 ⟨rfl,hb⟩;go_wp2;go_ret;exact⟨rfl,hb⟩
theorem qI (w:World) (x y:Int) (t:TypeId):eA 1 fk (w.alloc (.cells #[.int .i64 x, .int .i64 y] t)) (.slice (some ⟨w.heap.size,0,none⟩) 2 2) [x,y]:=by
 refine⟨_,2,rfl,ag _,by simp [maxLen],fun i z hz=>⟨w.heap.size,0,rfl,by simp,fun j v hv=>?_⟩⟩;rw [bL]
 match j,hv with
 | 0,hv=>
  simp [fk]at hv;subst hv
  match i,hz with
  | 0,hz=>simp at hz;subst hz;rfl
  | 1,hz=>simp at hz;subst hz;rfl
  | i+2,hz=>simp at hz
 | j+1,hv=>simp [fk]at hv
theorem Fw (w:World) (x y z:Int) (t:TypeId):eA 1 fk (w.alloc (.cells #[.int .i64 x, .int .i64 y, .int .i64 z] t)) (.slice (some ⟨w.heap.size,0,none⟩) 3 3) [x,y,z]:=by
 refine⟨_,3,rfl,ag _,by simp [maxLen],fun i q hq=>⟨w.heap.size,0,rfl,by simp,fun j v hv=>?_⟩⟩;rw [bL]
 match j,hv with
 | 0,hv=>
  simp [fk]at hv;subst hv
  match i,hq with
  | 0,hq=>simp at hq;subst hq;rfl
  | 1,hq=>simp at hq;subst hq;rfl
  | 2,hq=>simp at hq;subst hq;rfl
  | i+3,hq=>simp at hq
 | j+1,hv=>simp [fk]at hv
def uh (l:lA):Bool:= !decide l.may
theorem A3 (l:lA) (w:World):Calls prog 249 #[.agg #[.int .i64 l.pos, .int .i64 l.fb]] w (eL (uh l) w):=by
 have hd:([l.pos,l.fb].any pW)=uh l:=by
  by_cases h:l.may
  ·rw [uh,ay h]
   simp [lL.2 h.1,lL.2 h.2]
  ·rw [uh,aw h]
   by_cases h1:0 <=l.pos/\l.pos <=10000
   ·have h2:¬ (0 <=l.fb/\l.fb <=10000):=fun g=>h ⟨h1,g⟩
    simp [xU.2 h2]
   ·simp [xU.2 h1]
 have HD:=V hd;clear hd;go_enter func249,ntmps249;go_wp2_with fail;have hl:=qI (w.alloc (.cells #[.int .i64 l.pos, .int .i64 l.fb] 144)) l.pos l.fb 3;rw [aC]at hl;refine(xZ _ _ _ hl).mono ?_;rintro x w2 ⟨rfl,hb⟩;rw [HD.out];have NJ:Below w.heap.size w w2:=(((an w.heap.size w).alloc (ag _) _).alloc (by simp) _).trans (hb.mono (by simp;omega));clear hl hb;go_wp2;go_ret;exact⟨by simp,NJ⟩
theorem Cp (v:Value) (l:List lA) (w:World) (hl:eA 2 kP w v l):
  Calls prog 301 #[v, .func (.func 249) #[] #[]] w (kp uh l w):=by
 have HI:=V hl;have hl':=hl;obtain⟨a,cap,rfl,h1,h2,_⟩:=hl';unfold maxLen at h2;clear hl;go_enter func301,ntmps301;go_wp2_with fail;refine eR (fun a' w'=>∃(k:Nat),a'=fr (.slice a l.length cap:: .func (.func 249) #[] #[]::gs a' 2 5 (.int .i64 l.length:: .int .i64 k::gs a' 9 10 []))/\qP uh l w w' k) (fun a' _=>(l.length - (intOf (a'.tmps.getD 8 undef)).toNat)) ?_ ?_
 ·exact⟨0,rfl,by omega,fun i hi=>by omega,an _ _⟩
 ·skip
  rintro R a' w1 ⟨k,Nm,hJ⟩ HR;dsimp only [fr,gs]at Nm;generalize slot a'=f at Nm;subst Nm;obtain⟨hk,hm,hb⟩:=hJ;have N1:=V hm;clear hm;by_cases N8:k < l.length;rotate_left
  ·obtain rfl:k=l.length:=by omega
   go_wp2;go_ret;exact⟨by rw [ia N1.out];rfl,hb⟩
  obtain⟨e,he⟩:∃e,l[k]?=some e:=⟨_,aq N8⟩;obtain⟨a',NK,hv,_,_,Nk⟩:=HI.out.below (hb.mono (ag _));injection hv with e1 e2 e3;subst e1 e3;obtain⟨b,off,rfl,Nu,hc⟩:=Nk k e he;have c0:=hc 0 _ rfl;have c1:=hc 1 _ rfl;rw [aJ]at c0;have HE:=V he;clear Nk e2 he hc;have Nv:=A3 e w1;cases hq:uh e
  all_goals
   rw [hq]at Nv;have HQ:=V hq;clear hq;go_wp2_with fail;refine Nv.mono ?_;rintro x w2 ⟨rfl,No⟩;replace hb:=ej hb No;clear Nv No;go_wp2_with fail
  ·refine HR.out _ _ ⟨k+1,rfl,by omega,?_,hb⟩ ?_
   ·intro i hi d hd
    rcases bz i k with h | h
    ·exact N1.out i h d hd
    ·obtain rfl:i=k:=by omega
     rw [HE.out]at hd;injection hd with hd;rw [<- hd];exact HQ.out
   ·simp [intOf]
    omega
  ·go_ret
   exact⟨by rw [iF HE.out HQ.out N1.out];rfl,hb⟩
theorem Az (v:Value) (l:List lA) (w:World) (hl:eA 2 kP w v l):
  Calls prog 248 #[v, .func (.func 249) #[] #[]] w (eL (l.any uh) w):=by
 go_enter func248,ntmps248;go_wp2_with fail;refine(Cp v l _ hl).mono ?_;rintro x w2 ⟨rfl,hb⟩;go_wp2;go_ret;exact⟨by rw [<- iQ];rfl,hb⟩
theorem eS.tv {w:World} {X:Nat} {t:TypeId} {x0 x1 x2 x3 x4:Value} (h:eS w X #[x0,x1,x2,x3,x4] t):
  w.cell? ⟨X,0,none⟩=some x0/\w.cell? ⟨X,1,none⟩=some x1/\w.cell? ⟨X,2,none⟩=some x2/\w.cell? ⟨X,3,none⟩=some x3/\w.cell? ⟨X,4,none⟩=some x4:=⟨h.cell 0,h.cell 1,h.cell 2,h.cell 3,h.cell 4⟩
theorem eS.three {w:World} {X:Nat} {t:TypeId} {x0 x1 x2:Value} (h:eS w X #[x0,x1,x2] t):
  w.cell? ⟨X,0,none⟩=some x0/\w.cell? ⟨X,1,none⟩=some x1/\w.cell? ⟨X,2,none⟩=some x2:=⟨h.cell 0,h.cell 1,h.cell 2⟩
def nN (f:fg):Bool:= !decide f.may
theorem Ei (l:List fi):l.any wv=false↔∀v∈l,v.may:=by
 rw [dH]
 constructor
 ·intro h v hv
  have:=h v hv;simpa [wv] using this
 ·intro h v hv
  simpa [wv] using h v hv
theorem JA (l:List lA):l.any uh=false↔∀v∈l,v.may:=by
 rw [dH]
 constructor
 ·intro h v hv
  have:=h v hv;simpa [uh] using this
 ·intro h v hv
  simpa [uh] using h v hv
theorem JO (l:List fg):l.any nN=false↔∀v∈l,v.may:=by
 rw [dH]
 constructor
 ·intro h v hv
  have:=h v hv;simpa [nN] using this
 ·intro h v hv
  simpa [nN] using h v hv
theorem xj (f:fg) (u x:Value) (w:World) (hu:eA 2 fR w u f.locals) (hx:eA 2 kP w x f.labels):
  Calls prog 247 #[.agg #[.int .i64 f.fn, .int .i64 f.pc,u, .int .i64 f.base,x]] w (eL (nN f) w):=by
 have HU:=V hu;have HV:=V hx;obtain⟨au,Ns,rfl,_,hcu,_⟩:=hu;obtain⟨ax,Of,rfl,_,hcx,_⟩:=hx;unfold maxLen at hcu hcx;have hbad:∀b,(f.may ->b=false) ->(b=false ->f.may) ->nN f=b:=by
  intro b h1 h2;by_cases h:f.may
  ·rw [nN,ay h,h1 h];rfl
  ·cases b
   ·exact absurd (h2 rfl) h
   ·rw [nN,aw h];rfl
 have HBAD:=V (show ¬ f.may ->nN f=true from fun h=>by rw [nN,aw h];rfl);have HGOOD:=V (show f.may ->nN f=false from fun h=>by rw [nN,ay h];rfl);have HL:=V (JA f.labels);have HLV:=V (Ei f.locals);clear hbad;go_enter func247,ntmps247;go_wp2_with fail;have OA:=eS.new w #[.int .i64 f.fn, .int .i64 f.pc, .slice au f.locals.length Ns, .int .i64 f.base, .slice ax f.labels.length Of] 124;refine(Az _ f.labels _ (HV.out.below ((an _ _).alloc (ag _) _))).mono ?_;rintro y w1 ⟨rfl,Nx⟩;replace OA:=OA.below Nx (by simp);have hb:Below w.heap.size w w1:=((an w.heap.size w).alloc (ag _) _).trans (Nx.mono (by simp));clear Nx;obtain⟨x0,x1,x2,x3,x4⟩:=OA.tv;cases q1:f.labels.any uh with
 | true=>
  have Q1:=V q1;clear q1 OA;have HX:=V (show nN f=true from HBAD.out (fun h=>by have:=HL.out.2 h.1;rw [Q1.out]at this;cases this));go_wp2;go_ret;exact⟨by rw [HX.out];rfl,hb⟩
 | false=>
  have Q1:=V (HL.out.1 q1);clear q1;by_cases q2:40 < f.labels.length
  ·have f2:decide (40 < (f.labels.length:Int))=true:=ay (by omega)
   clear OA;have HX:=V (show nN f=true from HBAD.out (fun h=>by have:=h.2.1;omega));go_wp2;go_ret;exact⟨by rw [HX.out];rfl,hb⟩
  have f2:decide (40 < (f.labels.length:Int))=false:=aw (by omega);by_cases q3:32 < f.locals.length
  ·have f3:decide (32 < (f.locals.length:Int))=true:=ay (by omega)
   clear OA;have HX:=V (show nN f=true from HBAD.out (fun h=>by have:=h.2.2.1;omega));go_wp2;go_ret;exact⟨by rw [HX.out];rfl,hb⟩
  have f3:decide (32 < (f.locals.length:Int))=false:=aw (by omega);go_wp2_with fail;refine(wo _ f.locals _ (HU.out.below (hb.mono (ag _)))).mono ?_;rintro y w2 ⟨rfl,No⟩;replace OA:=OA.below No OA.lt;replace hb:=ej hb No;clear No x0 x1 x2 x3 x4;obtain⟨x0,x1,x2,x3,x4⟩:=OA.tv;clear OA;cases q4:f.locals.any wv with
  | true=>
   have Q4:=V q4;clear q4;have HX:=V (show nN f=true from HBAD.out (fun h=>by have:=HLV.out.2 h.2.2.2.1;rw [Q4.out]at this;cases this));go_wp2;go_ret;exact⟨by rw [HX.out];rfl,hb⟩
  | false=>
   have Q4:=V (HLV.out.1 q4);clear q4;go_wp2_with fail;have hl:=Fw w2 f.fn f.pc f.base 3;refine(xZ _ _ _ hl).mono ?_;rintro y w3 ⟨rfl,NP⟩;replace hb:=ej hb (((an w2.heap.size w2).alloc (ag _) _).trans (NP.mono (by simp)));clear NP x0 x1 x2 x3 x4 hl;cases q5:[f.fn,f.pc,f.base].any pW with
   | true=>
    have Q5:=V q5;clear q5;have HX:=V (show nN f=true from HBAD.out (fun h=>by have g:=Q5.out;simp [lL.2 h.2.2.2.2.1,lL.2 h.2.2.2.2.2.1,lL.2 h.2.2.2.2.2.2]at g));go_wp2;go_ret;exact⟨by rw [HX.out];rfl,hb⟩
   | false=>
    have Q5:=V q5;clear q5;have HX:=V (show nN f=false from HGOOD.out (by have g:=Q5.out;simp at g;exact⟨Q1.out,by omega,by omega,Q4.out,lL.1 g.1,lL.1 g.2.1,lL.1 g.2.2⟩));go_wp2;go_ret;exact⟨by rw [HX.out];rfl,hb⟩
theorem zH (v:Value) (l:List fg) (w:World) (hl:gu w v l):
  Calls prog 300 #[v, .func (.func 247) #[] #[]] w (kp nN l w):=by
 have HI:=V hl;obtain⟨a,cap,rfl,h1,h2⟩:=hl.slice;clear hl;go_enter func300,ntmps300;go_wp2_with fail;refine eR (fun a' w'=>∃(k:Nat),a'=fr (.slice a l.length cap:: .func (.func 247) #[] #[]::gs a' 2 5 (.int .i64 l.length:: .int .i64 k::gs a' 9 10 []))/\qP nN l w w' k) (fun a' _=>(l.length - (intOf (a'.tmps.getD 8 undef)).toNat)) ?_ ?_
 ·exact⟨0,rfl,by omega,fun i hi=>by omega,an _ _⟩
 ·skip
  rintro R a' w1 ⟨k,Nm,hJ⟩ HR;dsimp only [fr,gs]at Nm;generalize slot a'=f at Nm;subst Nm;obtain⟨hk,hm,hb⟩:=hJ;have N1:=V hm;clear hm;by_cases N8:k < l.length;rotate_left
  ·obtain rfl:k=l.length:=by omega
   go_wp2;go_ret;exact⟨by rw [ia N1.out];rfl,hb⟩
  obtain⟨e,he⟩:∃e,l[k]?=some e:=⟨_,aq N8⟩;obtain⟨b,off,u,x,rfl,Nu,⟨c0,c1,c2,c3,c4⟩,hu,hx,-⟩:=(HI.out.below (hb.mono (ag _))).get he;have Nv:=xj e u x w1 hu hx;obtain⟨au,Ns,rfl,-,-,-⟩:=hu;obtain⟨ax,Of,rfl,-,-,-⟩:=hx;have HE:=V he;clear he;cases hq:nN e
  all_goals
   rw [hq]at Nv;have HQ:=V hq;clear hq;go_wp2_with fail;refine Nv.mono ?_;rintro x w2 ⟨rfl,No⟩;replace hb:=ej hb No;clear Nv No c0 c1 c2 c3 c4;go_wp2_with fail
  ·refine HR.out _ _ ⟨k+1,rfl,by omega,?_,hb⟩ ?_
   ·intro i hi d hd
    rcases bz i k with h | h
    ·exact N1.out i h d hd
    ·obtain rfl:i=k:=by omega
     rw [HE.out]at hd;injection hd with hd;rw [<- hd];exact HQ.out
   ·simp [intOf]
    omega
  ·go_ret
   exact⟨by rw [iF HE.out HQ.out N1.out];rfl,hb⟩
theorem AY (v:Value) (l:List fg) (w:World) (hl:gu w v l):
  Calls prog 246 #[v, .func (.func 247) #[] #[]] w (eL (l.any nN) w):=by
 go_enter func246,ntmps246;go_wp2_with fail;refine(zH v l _ hl).mono ?_;rintro x w2 ⟨rfl,hb⟩;go_wp2;go_ret;exact⟨by rw [<- iQ];rfl,hb⟩
theorem oQ (uv uf:Value) (s:fP) (w:World) (hs:jP w uv uf s):
  Calls prog 139 #[.agg #[uv,uf, .int .i64 s.asks]] w (eL (decide s.may) w):=by
 have HS:=V hs;obtain⟨hv,hf,⟨⟨o1,o2⟩,-,-⟩⟩:=hs;obtain⟨av,NL,rfl,_,Oh,_⟩:=hv;obtain⟨af,OP,rfl,_,Sj⟩:=hf.slice;unfold maxLen at Oh;have HL:=V (JO s.ez);have HLV:=V (Ei s.eu);clear hf;have hb:Below w.heap.size w (w.alloc (.cells #[.slice av s.eu.length NL, .slice af s.ez.length OP, .int .i64 s.asks] 60)):=(an _ _).alloc (ag _) _;go_enter func139,ntmps139;by_cases q1:1000 < s.eu.length
 ·have f1:decide (1000 < (s.eu.length:Int))=true:=ay (by omega)
  have HX:=V (show decide s.may=false from aw (fun h=>by have:=h.1;omega));go_wp2;go_ret;exact⟨by rw [HX.out];rfl,hb⟩
 have f1:decide (1000 < (s.eu.length:Int))=false:=aw (by omega);by_cases q2:32 < s.ez.length
 ·have f2:decide (32 < (s.ez.length:Int))=true:=ay (by omega)
  have HX:=V (show decide s.may=false from aw (fun h=>by have:=h.2.1;omega));go_wp2;go_ret;exact⟨by rw [HX.out];rfl,hb⟩
 have f2:decide (32 < (s.ez.length:Int))=false:=aw (by omega);by_cases q3:s.asks < -1
 ·have f3:decide (s.asks < -1)=true:=ay q3
  have HX:=V (show decide s.may=false from aw (fun h=>by have:=h.2.2.1;omega));go_wp2;go_ret;exact⟨by rw [HX.out];rfl,hb⟩
 have f3:decide (s.asks < -1)=false:=aw q3;by_cases q4:10000 < s.asks
 ·have f4:decide (10000 < s.asks)=true:=ay q4
  have HX:=V (show decide s.may=false from aw (fun h=>by have:=h.2.2.2.1;omega));go_wp2;go_ret;exact⟨by rw [HX.out];rfl,hb⟩
 have f4:decide (10000 < s.asks)=false:=aw q4;go_wp2_with fail;have OA:=eS.new w #[.slice av s.eu.length NL, .slice af s.ez.length OP, .int .i64 s.asks] 60;refine(wo _ s.eu _ (HS.out.1.below (hb.mono (ag _)))).mono ?_;rintro y w1 ⟨rfl,Nx⟩;replace OA:=OA.below Nx (by simp);have hb:=hb.trans (Nx.mono hb.size);clear Nx;obtain⟨x0,x1,x2⟩:=OA.three;clear OA;cases q5:s.eu.any wv with
 | true=>
  have Q5:=V q5;clear q5;have HX:=V (show decide s.may=false from aw (fun h=>by have:=HLV.out.2 h.2.2.2.2.1;rw [Q5.out]at this;cases this));go_wp2;go_ret;exact⟨by rw [HX.out];rfl,hb⟩
 | false=>
  have Q5:=V (HLV.out.1 q5);clear q5;go_wp2_with fail;refine(AY _ s.ez _ (HS.out.2.1.below (hb.mono (ag _)))).mono ?_;rintro y w2 ⟨rfl,No⟩;replace hb:=ej hb No;clear No x0 x1 x2;cases q6:s.ez.any nN with
  | true=>
   have Q6:=V q6;clear q6;have HX:=V (show decide s.may=false from aw (fun h=>by have:=HL.out.2 h.2.2.2.2.2;rw [Q6.out]at this;cases this));go_wp2;go_ret;exact⟨by rw [HX.out];rfl,hb⟩
  | false=>
   have Q6:=V (HL.out.1 q6);clear q6;have HX:=V (show decide s.may=true from ay ⟨by omega,by omega,by omega,by omega,Q5.out,Q6.out⟩);go_wp2;go_ret;exact⟨by rw [HX.out];rfl,hb⟩
end Go.Proofs.YtjmeglibedbljaaGreatDoor
