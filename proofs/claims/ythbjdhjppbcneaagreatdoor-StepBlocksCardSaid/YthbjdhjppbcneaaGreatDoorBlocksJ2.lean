import Derived.Test.YthbjdhjppbcneaaGreatDoorBlocksJ1
namespace Go.Proofs.YthbjdhjppbcneaaGreatDoor
set_option maxRecDepth 100000
set_option maxHeartbeats 20000000
open Go.RowKit Tryz
open Lib renaming hid->V
set_option linter.all false
def oF:List UInt8 ->Nat
 | []=>0
 | x::l=>x.toNat %128+128*oF l
def ix (bits:Int) (l:List UInt8):Nat × Nat × Int:=
 if(fo bits l).2≠0 then(0,0,(fo bits l).2)
 else if eY (oF (l.take (fo bits l).1))=l.take (fo bits l).1/\oF (l.take (fo bits l).1) < 2^bits.toNat then(oF (l.take (fo bits l).1),(fo bits l).1,0)
 else(0,0,1)
theorem jq {bits:Int} {l:List UInt8} (h:(fo bits l).2=0):
  1 <=bits/\bits <=64/\(fo bits l).1=cont l+1/\cont l+1 <=l.length/\(cont l:Int)+1 <=(bits+6)/7:=by
 have:=ym l;unfold fo at*;by_cases h1:bits < 1\/64 < bits
 ·rw [aJ h1]at h;cases h
 rw [aC h1]at*;by_cases h2:(bits+6)/7 <=cont l
 ·rw [aJ h2]at h;cases h
 rw [aC h2]at*;by_cases h3:cont l=l.length
 ·rw [aJ h3]at h;cases h
 rw [aC h3];exact⟨by omega,by omega,rfl,by omega,by omega⟩
theorem wrap_u64 (n:Int):IntKind.u64.wrap n=n %18446744073709551616:=by simp [IntKind.wrap,IntKind.bits,IntKind.signed]
theorem JO (y:Nat) (h:y < 256):bits .andNot .u8 (y:Int) 128=((y %128:Nat):Int):=by
 have h0:=u8_andNot_nat y 128 h (by omega);rw [show(255 - 128:Nat)=127 from rfl,nat_mask7]at h0;exact h0
theorem Kf (x y:Nat) (hy:y < 256):
  bits .or .u64 (IntKind.u64.wrap ((x:Int)*128)) (IntKind.u64.wrap (bits .andNot .u8 (y:Int) 128))=(((y %128+128*x) %18446744073709551616:Nat):Int):=by
 rw [JO y hy,wrap_u64,wrap_u64];have h1:((x:Int)*128) %18446744073709551616=((x*128 %18446744073709551616:Nat):Int):=by omega
 have h2:(((y %128:Nat):Int)) %18446744073709551616=((y %128:Nat):Int):=by omega
 rw [h1,h2,u64_or_nat _ _ (by omega) (by omega),nat_join 7 _ _ (by omega) (by omega)]
 congr 1
 omega
theorem D7 {l:List UInt8} {k j:Nat} {y:UInt8} (hy:l[j]?=some y) (hj:j < k):oF ((l.take k).drop j)=y.toNat %128+128*oF ((l.take k).drop (j+1)):=by
 have h:(l.take k)[j]?=some y:=by rw [cZ,aJ hj];exact hy
 obtain⟨Lw,he⟩:=aM.1 h;rw [cA Lw,oF,he]
theorem tE:∀(f n:Nat),n < 128^f ->oF (jV f n)=n
 | 0,n,h=>by
  simp at h;subst h;rfl
 | f+1,n,h=>by
  rw [jV];split
  ·rw [oF,oF,fY (by omega)]
   omega
  ·rw [oF,fY (by omega),tE f (n/128) (by rw [Nat.pow_succ]at h;omega)]
   omega
theorem si {n:Nat} (h:n < 18446744073709551616):oF (eY n)=n:=tE 10 n (by omega)
theorem CB {bits:Int} {l:List UInt8} {k x:Nat} (he:(fo bits l).2=0) (hk:k=(fo bits l).1) (hx:x=oF (l.take k) %18446744073709551616)
  (hs:(l.take k==eY x)=true) (hr:if bits < 64 then(x:Int)/2^bits.toNat=0 else True):ix bits l=(x,k,0):=by
 obtain⟨h1,h2,_⟩:=jq he;have hs':l.take k=eY x:=by simpa using hs
 have N9:x < 18446744073709551616:=by omega
 have hv:oF (l.take k)=x:=by rw [hs'];exact si N9
 have Lw:x < 2^bits.toNat:=by
  by_cases h:bits < 64
  ·rw [aJ h]at hr
   have h0:((x/2^bits.toNat:Nat):Int)=0:=by rw [<- hr];simp
   have h3:x/2^bits.toNat=0:=by omega
   rcases bD x (2^bits.toNat)with h4 | h4
   ·exact h4
   ·have:=Nat.div_pos h4 (Nat.two_pow_pos _)
    omega
  ·obtain rfl:bits=64:=by omega
   exact N9
 rw [ix,aC (by rw [he];simp), <- hk,hv,aJ ⟨hs'.symm,Lw⟩]
theorem AH {bits:Int} {l:List UInt8} {k x:Nat} (he:(fo bits l).2=0) (hk:k=(fo bits l).1) (hx:x=oF (l.take k) %18446744073709551616)
  (hs:(l.take k==eY x)=false\/¬ (if bits < 64 then(x:Int)/2^bits.toNat=0 else True)):ix bits l=(0,0,1):=by
 obtain⟨h1,h2,_⟩:=jq he;rw [ix,aC (by rw [he];simp), <- hk,aC];rintro⟨h3,h4⟩;have h5:2^bits.toNat <=18446744073709551616:=by
  have:2^bits.toNat <=2^64:=cQ (by omega) (by omega);exact this
 have hv:x=oF (l.take k):=by omega
 rcases hs with h | h
 ·rw [hv,h3]at h
  simp at h
 ·apply h
  split
  ·have h6:x/2^bits.toNat=0:=Nat.div_eq_of_lt (by omega)
   have h7:((x/2^bits.toNat:Nat):Int)=0:=by omega
   rw [<- h7];simp
  ·trivial
def Lc (bits:Int) (l:List UInt8) (w:World) (e:Ending) (w':World):Prop:=
 e= .returned (.tuple #[.int .u64 (ix bits l).1, .int .i64 (ix bits l).2.1, .int .i64 (ix bits l).2.2])/\Below w.heap.size w w'
def UJ (l:List UInt8) (k:Nat) (w w':World) (x i:Nat):Prop:=w'=w/\i <=k/\x=oF ((l.take k).drop i) %18446744073709551616
theorem vt (b:Value) (l:List UInt8) (bits:Int) (w:World) (hb:eW w b l) (LC: -9223372036854775808 <=bits) (Lr:bits <=9223372036854775807):
  Calls prog 208 #[b, .int .i64 bits] w (Lc bits l w):=by
 by_cases he:(fo bits l).2=0
 ·obtain⟨k,hk⟩:∃k,k=(fo bits l).1:=⟨_,rfl⟩
  have HK:=V hk;have Qv:=V hb;obtain⟨Mf,Nl,MA,Lv,L5⟩:=jq he;have Qw:1 <=k:=by omega
  have Mm:k <=l.length:=by omega
  have P2:k <=10:=by omega
  clear MA Lv L5;obtain⟨a,cap,rfl,hl,hm,hc⟩:=hb;unfold maxLen at hm;have HC:=V hc;have HE:=V he;clear hc hk he;go_enter func208,ntmps208;go_wp2;refine ku 0 (fun a' w'=>∃(x i:Nat) (u8 RI QW RJ RK RL u16 RM RN RO u20 u21 u22 u23 u24 u25 u26 u27 u28 u29 u30 u31 u32 u33 u34 u35 u36 u37 u38 u39 u40 u41 u42 u43 u44 u45 u46 u47 u48 u49 u50 u51 u52:Value),a'={tmps:=#[.slice a l.length cap, .int .i64 bits,undef,undef, .int .u64 0, .int .i64 0, .int .i64 0, .int .i64 k,u8, .int .u64 x, .int .i64 i,RI,QW,RJ,RK,RL,u16,RM,RN,RO,u20,u21,u22,u23,u24,u25,u26,u27,u28,u29,u30,u31,u32,u33,u34,u35,u36,u37,u38,u39,u40,u41,u42,u43,u44,u45,u46,u47,u48,u49,u50,u51,u52],defers:=[]}/\UJ l k w w' x i) (fun a' _=>(intOf (a'.tmps.getD 10 undef)).toNat) rfl ?_ ?_
  ·rintro a' w1 ⟨x,i,u8,RI,QW,RJ,RK,RL,u16,RM,RN,RO,u20,u21,u22,u23,u24,u25,u26,u27,u28,u29,u30,u31,u32,u33,u34,u35,u36,u37,u38,u39,u40,u41,u42,u43,u44,u45,u46,u47,u48,u49,u50,u51,u52,rfl,hJ⟩
   obtain⟨rfl,hik,hx⟩:=hJ;have HX:=V hx;clear hx;by_cases hi:i=0
   ·subst hi
    rw [List.drop_zero]at HX;have N9:x < 18446744073709551616:=by have:=HX.out;omega
    have hbt:eW w1 (.slice a k cap) (l.take k):=Qv.out.take k Mm;have HBT:=V hbt;clear hbt;by_cases hs:(l.take k==eY x)=true
    ·by_cases h64:bits < 64
     ·have hd:decide (bits < 64)=true:=by simpa using h64
      by_cases hr:(x:Int)/2^bits.toNat=0
      ·have P3:(((x:Int)/2^bits.toNat) !=0)=false:=by simp [hr]
       have OA:(((x:Int)/2^bits.toNat)==0)=true:=by simp [hr]
       have HR:=V hr;clear hr;have HS:=V hs;clear hs;go_wp2_with fail;refine eu (fun _=>True) (up 0 4 ((4,false)::(5,false)::up 6 11 [])) (by kernel_rfl) (by kernel_rfl) trivial ?_;iterate 4 (first | (apply sk rfl rfl;simp only [pt]) | (apply ef rfl rfl rfl;·(intro w' _;go_wp2;exact⟨rfl,rfl,rfl⟩)))
       refine eo rfl rfl ?_;go_wp2_with (go_at_call 235;refine(jk _ [] x N9 w1.heap.size _ (eg.nil _ _) (by simp) (by simp)).mono ?_;rintro e w2 ⟨v2,rfl,LL,Lv,LB⟩);have Lr:=gd (Lv.below (ag _) (by intro i hi;cases hi));refine⟨trivial,?_⟩;refine eo rfl rfl ?_;go_wp2_with (go_at_call 269;refine(mf _ _ (l.take k) (eY x) _ (HBT.out.below Lr) LL.fF).mono ?_;rintro e w3 ⟨rfl,rfl⟩;rw [HS.out]);refine⟨trivial,?_⟩;iterate 11 (first | (apply sk rfl rfl;simp only [pt]) | (apply ef rfl rfl rfl;·(intro w' _;go_wp2;exact⟨rfl,rfl,rfl⟩)))
       refine eV ?_;refine aD ?_;go_wp2;rw [iV]
       go_ret3
       refine⟨?_,Lr⟩;rw [CB HE.out HK.out HX.out HS.out (by rw [aJ h64];exact HR.out)];rfl
      ·have P3:(((x:Int)/2^bits.toNat) !=0)=true:=by simp [hr]
       have OA:(((x:Int)/2^bits.toNat)==0)=false:=by simp [hr]
       have HR:=V hr;clear hr;have HS:=V hs;clear hs;go_wp2_with fail;refine eu (fun _=>True) (up 0 4 ((4,false)::(5,false)::up 6 11 [])) (by kernel_rfl) (by kernel_rfl) trivial ?_;iterate 4 (first | (apply sk rfl rfl;simp only [pt]) | (apply ef rfl rfl rfl;·(intro w' _;go_wp2;exact⟨rfl,rfl,rfl⟩)))
       refine eo rfl rfl ?_;go_wp2_with (go_at_call 235;refine(jk _ [] x N9 w1.heap.size _ (eg.nil _ _) (by simp) (by simp)).mono ?_;rintro e w2 ⟨v2,rfl,LL,Lv,LB⟩);have Lr:=gd (Lv.below (ag _) (by intro i hi;cases hi));refine⟨trivial,?_⟩;refine eo rfl rfl ?_;go_wp2_with (go_at_call 269;refine(mf _ _ (l.take k) (eY x) _ (HBT.out.below Lr) LL.fF).mono ?_;rintro e w3 ⟨rfl,rfl⟩;rw [HS.out]);refine⟨trivial,?_⟩;iterate 11 (first | (apply sk rfl rfl;simp only [pt]) | (apply ef rfl rfl rfl;·(intro w' _;go_wp2;exact⟨rfl,rfl,rfl⟩)))
       refine eV ?_;refine aD ?_;go_wp2;rw [iV]
       go_ret3
       refine⟨?_,Lr⟩;rw [AH HE.out HK.out HX.out (.inr (by rw [aJ h64];exact HR.out))];rfl
     ·have hd:decide (bits < 64)=false:=by simpa using h64
      have HS:=V hs;clear hs;go_wp2_with fail;refine eu (fun _=>True) (up 0 4 ((4,false)::(5,false)::up 6 11 [])) (by kernel_rfl) (by kernel_rfl) trivial ?_;iterate 4 (first | (apply sk rfl rfl;simp only [pt]) | (apply ef rfl rfl rfl;·(intro w' _;go_wp2;exact⟨rfl,rfl,rfl⟩)))
      refine eo rfl rfl ?_;go_wp2_with (go_at_call 235;refine(jk _ [] x N9 w1.heap.size _ (eg.nil _ _) (by simp) (by simp)).mono ?_;rintro e w2 ⟨v2,rfl,LL,Lv,LB⟩);have Lr:=gd (Lv.below (ag _) (by intro i hi;cases hi));refine⟨trivial,?_⟩;refine eo rfl rfl ?_;go_wp2_with (go_at_call 269;refine(mf _ _ (l.take k) (eY x) _ (HBT.out.below Lr) LL.fF).mono ?_;rintro e w3 ⟨rfl,rfl⟩;rw [HS.out]);refine⟨trivial,?_⟩;iterate 11 (first | (apply sk rfl rfl;simp only [pt]) | (apply ef rfl rfl rfl;·(intro w' _;go_wp2;exact⟨rfl,rfl,rfl⟩)))
      refine eV ?_;refine aD ?_;go_wp2;rw [iV]
      go_ret3
      refine⟨?_,Lr⟩;rw [CB HE.out HK.out HX.out HS.out (by rw [aC (by omega)];trivial)];rfl
    ·rw [Bool.not_eq_true]at hs
     have HS:=V hs;clear hs;go_wp2_with fail;refine eu (fun _=>True) (up 0 4 ((4,false)::(5,false)::up 6 11 [])) (by kernel_rfl) (by kernel_rfl) trivial ?_;iterate 4 (first | (apply sk rfl rfl;simp only [pt]) | (apply ef rfl rfl rfl;·(intro w' _;go_wp2;exact⟨rfl,rfl,rfl⟩)))
     refine eo rfl rfl ?_;go_wp2_with (go_at_call 235;refine(jk _ [] x N9 w1.heap.size _ (eg.nil _ _) (by simp) (by simp)).mono ?_;rintro e w2 ⟨v2,rfl,LL,Lv,LB⟩);have Lr:=gd (Lv.below (ag _) (by intro i hi;cases hi));refine⟨trivial,?_⟩;refine eo rfl rfl ?_;go_wp2_with (go_at_call 269;refine(mf _ _ (l.take k) (eY x) _ (HBT.out.below Lr) LL.fF).mono ?_;rintro e w3 ⟨rfl,rfl⟩;rw [HS.out]);refine⟨trivial,?_⟩;iterate 11 (first | (apply sk rfl rfl;simp only [pt]) | (apply ef rfl rfl rfl;·(intro w' _;go_wp2;exact⟨rfl,rfl,rfl⟩)))
     refine eV ?_;refine aD ?_;go_wp2;rw [iV]
     go_ret3
     refine⟨?_,Lr⟩;rw [AH HE.out HK.out HX.out (.inl HS.out)];rfl
   ·obtain⟨j,rfl⟩:∃j,i=j+1:=⟨i - 1,by omega⟩
    obtain⟨y,hy⟩:∃y,l[j]?=some y:=⟨_,aw (show j < l.length by omega)⟩;obtain⟨b,off,rfl,hc⟩:=HC.out j y hy;have hy8:=y.toNat_lt;have HY:=V hy;clear hy;have Lw:j < l.length:=by omega
    go_wp2_with fail
    go_step3
    simp only [Exit.then];rw [Kf x y.toNat hy8];refine lV ⟨_,j,_,_,_,_,_,_,_,_,_,_,_,_,_,_,_,_,_,_,_,_,_,_,_,_,_,_,_,_,_,_,_,_,_,_,_,_,_,_,_,_,_,_,_,rfl,rfl,by omega,?_⟩ ?_
    ·rw [D7 HY.out (by omega),HX.out]
     omega
    ·simp [intOf]
  ·intro H
   have Hh:=V H;clear H;go_wp2_with (go_at_call 268;refine(nk _ l _ _ Qv.out (by omega) (by omega)).mono ?_;rintro e w' ⟨rfl,rfl⟩;rw [HE.out, <- HK.out])
   go_step3
   go_step
   go_step
   refine Hh.out _ _ ⟨0,k,_,_,_,_,_,_,_,_,_,_,_,_,_,_,_,_,_,_,_,_,_,_,_,_,_,_,_,_,_,_,_,_,_,_,_,_,_,_,_,_,_,_,_,rfl,rfl,ag _,?_⟩;rw [List.drop_eq_nil_of_le (by rw [aS];omega)];rfl
 ·have HE:=V he
  have Qv:=V hb;have HB:=V (ed he);clear he hb;go_enter func208,ntmps208;go_wp2
  go_step3
  go_wp2_with (go_at_call 268;refine(nk _ l _ _ Qv.out (by omega) (by omega)).mono ?_;rintro e w' ⟨rfl,rfl⟩;have hb:=HB.out);rw [Exit.noGoto_ret]
  go_ret3
  refine⟨?_,an _ _⟩;rw [ix,aJ HE.out];rfl
def iN:Nat ->Int ->List UInt8
 | 0,_=>[]
 | f+1,n=>if -64 <=n/\n < 64 then [b8 (n %128).toNat]else b8 ((n %128).toNat+128)::iN f (n/128)
def iy (n:Int):List UInt8:=iN 10 n
def Ki (xs:List UInt8) (u:Int) (B:Nat) (b:Value) (w w':World) (v:Value) (n:Int):Prop:=
 ∃(ys:List UInt8) (k f:Nat),eg w' B v ys/\ee (eH b) w w'/\eM w b v/\ys.length <=xs.length+k/\k+f=9/\ -((128:Int)^f) <=n/\n < 128^f/\ys++iN (f+1) n=xs++iN 10 u
def Ii (xs:List UInt8) (u:Int) (B:Nat) (b:Value) (w:World) (e:Ending) (w':World):Prop:=
 ∃v,e= .returned v/\eg w' B v (xs++iy u)/\ee (eH b) w w'/\eM w b v
theorem uD (n:Int):bits .andNot .u8 (n %256) 128=n %128:=by
 obtain⟨m,hm⟩:∃m:Nat,(m:Int)=n %256:=⟨(n %256).toNat,by omega⟩;rw [<- hm,JO m (by omega)];omega
theorem Kw:∀x:Fin 128,x.val&&&64=if x.val < 64 then 0 else 64:=by decide+kernel
theorem A4 (n:Int):bits .and .u8 (n %128) 64=if n %128 < 64 then 0 else 64:=by
 obtain⟨m,hm⟩:∃m:Nat,(m:Int)=n %128:=⟨(n %128).toNat,by omega⟩;have h0:=u8_and_nat m 64 (by omega) (by omega);rw [Kw ⟨m,by omega⟩]at h0;rw [<- hm];refine h0.trans ?_;by_cases h:m < 64
 ·rw [aJ h,aJ (by omega)];rfl
 ·rw [aC h,aC (by omega)];rfl
theorem Ji (n:Int):bits .andNot .u8 (n %256) 128=((b8 (n %128).toNat).toNat:Int):=by
 rw [uD,fY (by omega)];omega
theorem EA (n:Int):bits .or .u8 (bits .andNot .u8 (n %256) 128) 128=((b8 ((n %128).toNat+128)).toNat:Int):=by
 rw [uD,fY (by omega)];obtain⟨m,hm⟩:∃m:Nat,(m:Int)=n %128:=⟨(n %128).toNat,by omega⟩;rw [<- hm,uB m (by omega)];omega
theorem nq (b:Value) (xs:List UInt8) (u:Int) (h0: -9223372036854775808 <=u) (h1:u <=9223372036854775807) (B:Nat) (w:World) (Lo:eg w B b xs) (hn:xs.length <=1000000000) (hB:B <=w.heap.size):
  Calls prog 236 #[b, .int .i64 u] w (Ii xs u B b w):=by
 go_enter func236,ntmps236;go_wp2;refine ku 0 (fun a' w'=>∃(v:Value) (n:Int) (u5 u6 u7 u8 u9 u10 RI QW RJ RK RL u16 RM RN RO u20 u21 u22 u23 u24 u25 u26 u27 u28 u29 u30 u31 u32 u33 u34 u35:Value),a'={tmps:=#[v, .int .i64 n,undef,undef, .slice none 0 0,u5,u6,u7,u8,u9,u10,RI,QW,RJ,RK,RL,u16,RM,RN,RO,u20,u21,u22,u23,u24,u25,u26,u27,u28,u29,u30,u31,u32,u33,u34,u35],defers:=[]}/\Ki xs u B b w w' v n) (fun a' _=>(intOf (a'.tmps.getD 1 undef)).natAbs) rfl ?_ ?_
 ·rintro a' w1 ⟨v,n,u5,u6,u7,u8,u9,u10,RI,QW,RJ,RK,RL,u16,RM,RN,RO,u20,u21,u22,u23,u24,u25,u26,u27,u28,u29,u30,u31,u32,u33,u34,u35,rfl,hJ⟩
  obtain⟨ys,k,f,O1,hk,hs,hlen,hkf,hnf1,hnf2,heq⟩:=hJ;have HE:=V heq;have HK:=V hkf;have hk9:k <=9:=by omega
  clear heq hkf Lo;have Mr:=hk.size;have hc:=A4 n;rw [<- uD]at hc;have HC:=V hc;clear hc;by_cases n0:n/128=0
  ·by_cases n1:n %128 < 64
   ·have e1:=eQ n0
    have e2:(bits .and .u8 (bits .andNot .u8 (n %256) 128) 64==0)=true:=by rw [HC.out,uD,aJ n1];rfl
    have Mz: -64 <=n/\n < 64:=by omega
    clear n0;have HS:=V Mz;clear Mz;go_wp2_with (first | (at_builtin;refine fi w1 rfl _ _ rfl rfl B v ys rfl O1 (b8 (n %128).toNat) _ (Ji n) rfl ?_ ?_ ?_))
    ·omega
    ·omega
    ·intro v' w2 LL Lv LB
     go_wp2;rw [iV];go_ret;refine⟨v',rfl,?_,hk.trans Lv ?_,hs.trans LB Mr⟩
     ·have h:=HE.out
      rw [iN,aJ HS.out]at h;rw [iy, <- h];exact LL
     ·exact fun i hi=>hs i hi
   ·have e1:=eQ n0
    have e2:(bits .and .u8 (bits .andNot .u8 (n %256) 128) 64==0)=false:=by rw [HC.out,uD,aC n1];rfl
    have e3:=ed (a:=n/128) (b:= -1) (by omega);have Mz:¬ (-64 <=n/\n < 64):=by omega
    clear n0;have HS:=V Mz;clear Mz;go_wp2_with (first | (at_builtin;refine fi w1 rfl _ _ rfl rfl B v ys rfl O1 (b8 ((n %128).toNat+128)) _ (EA n) rfl ?_ ?_ ?_))
    ·omega
    ·omega
    ·intro v' w2 LL Lv LB
     go_wp2
     go_step3
     have Mz:=HS.out;have hf:f≠0:=by
      rintro rfl;omega
     obtain⟨f',rfl⟩:∃f',f=f'+1:=⟨f - 1,by omega⟩;refine lV ⟨v',n/128,_,_,_,_,_,_,_,_,_,_,_,_,_,_,_,_,_,_,_,_,_,_,_,_,_,_,_,_,_,_,_,rfl,ys++[b8 ((n %128).toNat+128)],k+1,f',LL,hk.trans Lv (fun i hi=>hs i hi),hs.trans LB Mr,?_,?_,?_,?_,?_⟩ ?_
     ·simp
      omega
     ·have:=HK.out
      omega
     ·rw [bW]at hnf1
      omega
     ·rw [bW]at hnf2
      omega
     ·have h:=HE.out
      rw [iN,aC Mz]at h;rw [<- h];simp
     ·simp [intOf]
      omega
  by_cases n0:n/128= -1
  ·by_cases n1:n %128 < 64
   ·have e1:=eQ n0
    have e2:(bits .and .u8 (bits .andNot .u8 (n %256) 128) 64 !=0)=false:=by rw [HC.out,uD,aJ n1];rfl
    have e3:=ed (a:=n/128) (b:=0) (by omega);have Mz:¬ (-64 <=n/\n < 64):=by omega
    clear n0;have HS:=V Mz;clear Mz;go_wp2_with (first | (at_builtin;refine fi w1 rfl _ _ rfl rfl B v ys rfl O1 (b8 ((n %128).toNat+128)) _ (EA n) rfl ?_ ?_ ?_))
    ·omega
    ·omega
    ·intro v' w2 LL Lv LB
     go_wp2
     go_step3
     have Mz:=HS.out;have hf:f≠0:=by
      rintro rfl;omega
     obtain⟨f',rfl⟩:∃f',f=f'+1:=⟨f - 1,by omega⟩;refine lV ⟨v',n/128,_,_,_,_,_,_,_,_,_,_,_,_,_,_,_,_,_,_,_,_,_,_,_,_,_,_,_,_,_,_,_,rfl,ys++[b8 ((n %128).toNat+128)],k+1,f',LL,hk.trans Lv (fun i hi=>hs i hi),hs.trans LB Mr,?_,?_,?_,?_,?_⟩ ?_
     ·simp
      omega
     ·have:=HK.out
      omega
     ·rw [bW]at hnf1
      omega
     ·rw [bW]at hnf2
      omega
     ·have h:=HE.out
      rw [iN,aC Mz]at h;rw [<- h];simp
     ·simp [intOf]
      omega
   ·have e1:=eQ n0
    have e2:(bits .and .u8 (bits .andNot .u8 (n %256) 128) 64 !=0)=true:=by rw [HC.out,uD,aC n1];rfl
    have e3:=ed (a:=n/128) (b:=0) (by omega);have Mz: -64 <=n/\n < 64:=by omega
    clear n0;have HS:=V Mz;clear Mz;go_wp2_with (first | (at_builtin;refine fi w1 rfl _ _ rfl rfl B v ys rfl O1 (b8 (n %128).toNat) _ (Ji n) rfl ?_ ?_ ?_))
    ·omega
    ·omega
    ·intro v' w2 LL Lv LB
     go_wp2;rw [iV];go_ret;refine⟨v',rfl,?_,hk.trans Lv ?_,hs.trans LB Mr⟩
     ·have h:=HE.out
      rw [iN,aJ HS.out]at h;rw [iy, <- h];exact LL
     ·exact fun i hi=>hs i hi
  ·have e1:=ed (a:=n/128) (b:=0) (by omega)
   have e2:=ed (a:=n/128) (b:= -1) (by omega);have Mz:¬ (-64 <=n/\n < 64):=by omega
   have HS:=V Mz;clear Mz;go_wp2_with (first | (at_builtin;refine fi w1 rfl _ _ rfl rfl B v ys rfl O1 (b8 ((n %128).toNat+128)) _ (EA n) rfl ?_ ?_ ?_))
   ·omega
   ·omega
   ·intro v' w2 LL Lv LB
    go_wp2
    go_step3
    have Mz:=HS.out;have hf:f≠0:=by
     rintro rfl;omega
    obtain⟨f',rfl⟩:∃f',f=f'+1:=⟨f - 1,by omega⟩;refine lV ⟨v',n/128,_,_,_,_,_,_,_,_,_,_,_,_,_,_,_,_,_,_,_,_,_,_,_,_,_,_,_,_,_,_,_,rfl,ys++[b8 ((n %128).toNat+128)],k+1,f',LL,hk.trans Lv (fun i hi=>hs i hi),hs.trans LB Mr,?_,?_,?_,?_,?_⟩ ?_
    ·simp
     omega
    ·have:=HK.out
     omega
    ·rw [bW]at hnf1
     omega
    ·rw [bW]at hnf2
     omega
    ·have h:=HE.out
     rw [iN,aC Mz]at h;rw [<- h];simp
    ·simp [intOf]
     omega
 ·intro H
  apply wp_seq_k;intro K hK;apply wp_label;apply hK;exact H _ _ ⟨b,u,_,_,_,_,_,_,_,_,_,_,_,_,_,_,_,_,_,_,_,_,_,_,_,_,_,_,_,_,_,_,_,rfl,xs,0,9,Lo,ee.refl _ _,eM.refl _ _,by omega,rfl,by omega,by omega,rfl⟩
section
def eP (w:World) (X:Nat) (xs:Array Value) (t:TypeId):Prop:=w.heap[X]?=some (.cells xs t)
section
variable {w w':World} {X:Nat} {xs:Array Value} {t:TypeId}
theorem eP.lt (h:eP w X xs t):X < w.heap.size:=(cq.1 h).1
theorem eP.new (w:World) (xs:Array Value) (t:TypeId):eP (w.alloc (.cells xs t)) w.heap.size xs t:=dw w _
theorem eP.keeps {S:Nat ->Prop} (h:eP w X xs t) (hk:ee S w w') (hs:¬ S X):eP w' X xs t:=(hk.block X h.lt hs).trans h
theorem eP.below {B:Nat} (h:eP w X xs t) (hb:Below B w w') (hX:X < B):eP w' X xs t:=(hb.block X hX).trans h
theorem eP.alloc (h:eP w X xs t) (o:Obj):eP (w.alloc o) X xs t:=h.below ((an w.heap.size w).alloc (ag _) o) h.lt
theorem eP.drew (h:eP w X xs t):eP w.drew X xs t:=h
theorem eP.cell (h:eP w X xs t) (i:Nat):w.cell? ⟨X,i,none⟩=xs[i]?:=by
 have:=cell_of_row w X i xs _ _ h;simpa using this
theorem eP.free (h:eP w X xs t) (i:Nat):w.frozen? ⟨X,i,none⟩=false:=dd w X i xs _ h
theorem eP.set (h:eP w X xs t) (i:Nat) (v:Value):eP (w.setCell ⟨X,i,none⟩ v) X (xs.setIfInBounds i v) t:=heap_setCell_same w X i xs _ _ h
theorem eP.other (h:eP w X xs t) (a:Addr) (v:Value) (ha:X≠a.block):eP (w.setCell a v) X xs t:=(cM w a v X ha).trans h
theorem eP.four {x0 x1 x2 x3:Value} (h:eP w X #[x0,x1,x2,x3] t):
  (w.cell? ⟨X,0,none⟩=some x0/\w.cell? ⟨X,1,none⟩=some x1/\w.cell? ⟨X,2,none⟩=some x2/\w.cell? ⟨X,3,none⟩=some x3)/\
  w.frozen? ⟨X,0,none⟩=false/\w.frozen? ⟨X,1,none⟩=false/\w.frozen? ⟨X,2,none⟩=false/\w.frozen? ⟨X,3,none⟩=false:=
 ⟨⟨h.cell 0,h.cell 1,h.cell 2,h.cell 3⟩,h.free 0,h.free 1,h.free 2,h.free 3⟩
theorem eP.sx {x0 x1 x2 x3:Value} (h:eP w X #[x0,x1,x2,x3] t) (y0 y1 y2 y3:Value):
  eP ((((w.setCell ⟨X,0,none⟩ y0).setCell ⟨X,1,none⟩ y1).setCell ⟨X,2,none⟩ y2).setCell ⟨X,3,none⟩ y3) X #[y0,y1,y2,y3] t:=by
 have:=(((h.set 0 y0).set 1 y1).set 2 y2).set 3 y3;simpa using this
theorem fu {P:Program} {fn:Func} {t0 u0:Tmp} {ty:TypeId} (h:fn.results=#[.cell t0 ty, .tmp u0]) (tmps:Array Value) (w:World) {a:Addr} {v:Value} (ht:tmps.getD t0 undef= .pointer (some a))
  (hl:(loadVar ty a).run P w= .ok v w):(results fn tmps).run P w= .ok (.tuple #[v,tmps.getD u0 undef]) w:=by
 have ht':tmps[t0]?.getD undef= .pointer (some a):=by simpa using ht
 simp [results,h,ht',asAddr,hl]
end
end
def kF (w:World) (e:Ending) (w':World):Prop:=e= .returned (.bool true)/\Below w.heap.size w w'
theorem ei {a b c:World} (h:Below a.heap.size a b) (k:Below b.heap.size b c):Below a.heap.size a c:=h.trans (k.mono h.size)
theorem jH {a b:World} {v:Value} (h:ee (eH v) a b) (hv:v.ownBlock=none):Below a.heap.size a b:=h.below (ag _) (fun i hi=>by rw [eH,hv]at hi;cases hi)
theorem eO (n:Nat):1 <=(eY n).length/\(eY n).length <=10:=by
 have h:∀f n,(jV f n).length <=f:=by
  intro f
  induction f with
  | zero=>intro n;simp [jV]
  | succ f ih=>
   intro n;rw [jV];split
   ·simp
   ·have:=ih (n/128)
    simp;omega
 refine⟨?_,h 10 n⟩;rw [eY,jV];split <;>simp
theorem eg.open {w:World} {B:Nat} {v:Value} {l:List UInt8} (h:eg w B v l) (hl:l≠[]):
  ∃g cap,v= .slice (some ⟨g,0,none⟩) l.length cap/\B <=g/\g < w.heap.size/\l.length <=cap/\cap <=maxLen/\(∀i x,l[i]?=some x ->w.cell? ⟨g,i,none⟩=some (bv x))/\∀i,w.frozen? ⟨g,i,none⟩=false:=by
 have hi:=h.fF;obtain⟨h1,h2 | ⟨g,cap,cur,hv,hb,hg,hn,hm,hs,ht⟩⟩:=h
 ·exact absurd (aH h2.2) hl
 ·refine⟨g,cap,hv,hb,(cq.1 hg).1,hn,hm,fun i x hx=>?_,fun i=>dd w g i cur _ hg⟩
  obtain⟨a,c,Qj,_,_,hc⟩:=hi;obtain⟨b,off,ha,MF⟩:=hc i x hx;rw [hv]at Qj;injection Qj with e1 e2 e3;subst e1;injection ha with ha;injection ha with e1 e2;subst e1 e2
  rwa [bP]at MF
def sliceFrom (a:Option Addr) (len cap k:Nat):Value:= .slice (if cap=k then a else a.map (·.add (k*1))) (len - k) (cap - k)
theorem pI (a:Option Addr) (len cap k:Nat) (hk:k <=len) (w:World):
  (Instr.slice 97 (.slice a len cap) (some (.int .i64 k)) none none).run prog w= .ok (sliceFrom a len cap k) w:=by
 have hu:prog.underlying 97=some (.slice 5):=by kernel_rfl
 obtain⟨i0,hi,NW,MP,Nu⟩:=bX oW;simp [Instr.slice,bx hu,Instr.sliceBounds,Instr.sliceBound,sizeOf,typeInfo,hi,MP,asIntOf,hk,sliceFrom]
theorem eW.drop {w:World} {a:Option Addr} {n cap:Nat} {l:List UInt8} (h:eW w (.slice a n cap) l) (k:Nat) (hk:k <=l.length):eW w (sliceFrom a n cap k) (l.drop k):=by
 obtain⟨a',LO,hv,h1,h2,h3⟩:=h;injection hv with e1 e2 e3;subst e1 e2 e3;refine⟨_,cap - k,by rw [sliceFrom,bu],by rw [bu];omega,by simp only [maxLen]at*;omega,fun i x hx=>?_⟩;rw [List.getElem?_drop]at hx;obtain⟨b,off,rfl,hc⟩:=h3 _ x hx;have Lw:=(aM.1 hx).1;rw [aC (by omega)];refine⟨b,off+k,?_,?_⟩
 ·simp only [bF,bq]
  unfold Addr.add;split <;>simp_all
 ·rw [Nat.add_assoc]
  exact hc
theorem oL (p:List UInt8) (z:UInt8) (rest:List UInt8) (hp:∀y∈p,128 <=y.toNat) (hz:z.toNat < 128):cont (p++z::rest)=p.length:=by
 induction p with
 | nil=>simp [cont];omega
 | cons x p ih=>
  rw [bI,cont,aJ (hp x (by simp)),ih (fun y hy=>hp y (by simp [hy]))];rfl
theorem rH:∀(f n:Nat),n < 128^(f+1) ->∃p z,jV (f+1) n=p++[z]/\(∀y∈p,128 <=y.toNat)/\z.toNat < 128/\p.length <=f:=by
 intro f
 induction f with
 | zero=>
  intro n h;exact⟨[],b8 n,by rw [jV,aJ (by omega)];rfl,by simp,by rw [fY (by omega)];omega,ag _⟩
 | succ f ih=>
  intro n h;rw [jV];split
  ·exact⟨[],b8 n,rfl,by simp,by rw [fY (by omega)];omega,by simp⟩
  ·obtain⟨p,z,h1,h2,h3,h4⟩:=ih (n/128) (by rw [Nat.pow_succ]at h;omega)
   refine⟨b8 (n %128+128)::p,z,by rw [h1];rfl,fun y hy=>?_,h3,by simpa using h4⟩;rcases bB.1 hy with rfl | hy
   ·rw [fY (by omega)]
    omega
   ·exact h2 y hy
theorem pA:∀(f:Nat) (n:Int),-((128:Int)^(f+1)) <=2*n ->2*n < 128^(f+1) ->∃p z,iN (f+1) n=p++[z]/\(∀y∈p,128 <=y.toNat)/\z.toNat < 128/\p.length <=f:=by
 intro f
 induction f with
 | zero=>
  intro n h h';exact⟨[],b8 (n %128).toNat,by rw [iN,aJ (by omega)];rfl,by simp,by rw [fY (by omega)];omega,ag _⟩
 | succ f ih=>
  intro n h h';rw [iN];split
  ·exact⟨[],b8 (n %128).toNat,rfl,by simp,by rw [fY (by omega)];omega,by simp⟩
  ·rw [bW,bW]at h h'
   obtain⟨p,z,h1,h2,h3,h4⟩:=ih (n/128) (by rw [bW];omega) (by rw [bW];omega);refine⟨b8 ((n %128).toNat+128)::p,z,by rw [h1];rfl,fun y hy=>?_,h3,by simpa using h4⟩;rcases bB.1 hy with rfl | hy
   ·rw [fY (by omega)]
    omega
   ·exact h2 y hy
theorem DD {L p q:List UInt8} (hL:L=p++q) (a:Option Addr) (cap:Nat):∃a2 Lu,
  (∀wx,(Instr.slice 97 (.slice a L.length cap) (some (.int .i64 p.length)) none none).run prog wx= .ok (.slice a2 q.length Lu) wx)/\
  ∀wy,eW wy (.slice a L.length cap) L ->eW wy (.slice a2 q.length Lu) q:=by
 have hle:p.length <=L.length:=by rw [hL];simp
 have hd:L.drop p.length=q:=by rw [hL];exact df
 have hl:L.length - p.length=q.length:=by rw [hL];simp
 refine⟨if cap=p.length then a else a.map (·.add (p.length*1)),cap - p.length,fun wx=>?_,fun wy h=>?_⟩
 ·rw [pI a L.length cap p.length hle wx,sliceFrom,hl]
 ·have:=h.drop p.length hle
  rw [hd,sliceFrom,hl]at this;exact this
theorem so:∀(f n:Nat),n < 128^f ->(jV f n).length <=1\/128^((jV f n).length - 1) <=n
 | 0,n,_=>by simp [jV]
 | f+1,n,h=>by
  rw [jV];split
  ·left;simp
  ·rename_i hge
   right
   rcases so f (n/128) (by rw [Nat.pow_succ]at h;omega)with h1 | h1
   ·have:(b8 (n %128+128)::jV f (n/128)).length - 1 <=1:=by simp;exact h1
    have h2:128^((b8 (n %128+128)::jV f (n/128)).length - 1) <=128^1:=cQ (by omega) this;omega
   ·rw [aF,dh]
    rcases aY (jV f (n/128)).length with h0 | h0
    ·rw [h0]
     omega
    ·obtain⟨m,hm⟩:∃m,(jV f (n/128)).length=m+1:=⟨_,(Nat.succ_pred_eq_of_pos h0).symm⟩
     rw [hm]at h1⊢;rw [dh]at h1;rw [Nat.pow_succ];have:=cz 128 h1;omega
theorem Dy:∀(f:Nat) (n:Int),-((128:Int)^(f+1)) <=2*n ->2*n < 128^(f+1) ->(iN (f+1) n).length=1\/((iN (f+1) n).length≠0/\¬ (-(64*128^((iN (f+1) n).length - 2)) <=n/\n < 64*128^((iN (f+1) n).length - 2))):=by
 intro f
 induction f with
 | zero=>
  intro n h h'
  left
  rw [iN,aJ (by omega)];rfl
 | succ f ih=>
  intro n h h';rw [iN];split
  ·left;rfl
  ·rename_i hs
   right
   rw [bW,bW]at h h';obtain h1 | h1:=ih (n/128) (by rw [bW];omega) (by rw [bW];omega)
   ·rw [aF,h1]
    simp;omega
   ·rw [aF]
    obtain⟨h0,h1⟩:=h1;obtain⟨m,hm⟩:∃m,(iN (f+1) (n/128)).length=m+1:=⟨_,(Nat.succ_pred_eq_of_pos (Nat.pos_of_ne_zero h0)).symm⟩;rw [hm]at h1⊢;refine⟨by omega,?_⟩;rcases aY m with hm0 | hm0
    ·subst hm0
     simp;omega
    ·obtain⟨m',rfl⟩:∃m',m=m'+1:=⟨m - 1,by omega⟩
     rw [show m'+1+1 - 2=m' from by omega]at h1;rw [show m'+1+1+1 - 2=m'+1 from by omega,bW];omega
theorem CH (l:List UInt8):(bs l).size=l.length:=by simp [bs,ByteArray.size]
theorem fZ {P:Program} (w:World) {ops:Array Oper} {rest:List Oper} {o:Oper} {a:Act} {Q:Exit ->Act ->World ->Prop} (O9:o.guard=none) (s x:Operand)
  (hP:P=prog) (ho:o.op= .call {callee:= .builtin .append,args:=#[s,x],argTypes:=#[97,97]})
  (B:Nat) (v:Value) (l:List UInt8) (hs:a.eval s=v) (Lo:eg w B v l)
  (b:Value) (m:List UInt8) (hx:a.eval x=b) (hm:eW w b m)
  (PC:l.length+m.length <=140737488355327) (LY:B <=w.heap.size)
  (h:∀v' w',eg w' B v' (l++m) ->ee (eH v) w w' ->eM w v v' ->wpList P ops Q rest (a.put o.dst v') w'):wpList P ops Q (o::rest) a w:=by
 subst hP;obtain⟨i0,hi,NW,MP,Nu⟩:=bX oW;obtain⟨ad,cap,rfl,M9,Mj,Rc⟩:=hm;cases m with
 | nil=>
  have key:∃v' w',(Builtin.append_ #[97,97] o.type #[v, .slice ad 0 cap]).run prog w= .ok v' w'/\eg w' B v' (l++[])/\ee (eH v) w w'/\eM w v v':=by
   cases ad with
   | some ad=>
    obtain⟨v',w',h1,h2,h3,h4⟩:=tj (P:=prog) w B 97 o.type 5 i0 (.int .u8 0) 1 1 (by kernel_rfl) hi NW MP Nu rfl (by decide) v l.length (l.map bv) Lo ad 0 cap [] rfl (by simp) (by simp) (by simp only [maxLen];omega) (by omega) LY;exact⟨v',w',h1,by simpa [eg] using h2,h3,h4⟩
   | none=>
    have ht:prog.underlying 97=some (.slice 5):=by kernel_rfl
    rcases Lo.2 with⟨rfl,h0⟩ | ⟨g,LO,cur,rfl,hb,hg,hn,hm,hs,O3⟩
    ·refine⟨.slice none 0 0,w,?_,by simpa using Lo,ee.refl _ _,eM.refl _ _⟩
     simp [Builtin.append_,bx ht,sizeOf,typeInfo,hi,Builtin.lenOf,Builtin.firstCells]
    ·refine⟨.slice (some ⟨g,0,none⟩) l.length LO,w,?_,by simpa using Lo,ee.refl _ _,eM.refl _ _⟩
     simp [Builtin.append_,bx ht,sizeOf,typeInfo,hi,Builtin.lenOf,Builtin.firstCells,hn];simp [storeCells]
  obtain⟨v',w',hr,h2,h3,h4⟩:=key;refine dV O9 fun _ hK=>?_;unfold Oper.wp execOp;simp only [ho,resolve,invoke,builtin,cL,cg,cC,dy,bG,cV,hs,hx,hr,aL];exact hK _ _ (h v' w' h2 h3 h4)
 | cons y m=>
  obtain⟨b,off,rfl,_⟩:=Rc 0 y rfl;refine qR (P:=prog) w O9 s x 97 ho B 5 i0 (.int .u8 0) 1 1 (by kernel_rfl) hi NW MP Nu rfl (by decide) v l.length (l.map bv) hs Lo ⟨b,off,none⟩ (y::m).length cap ((y::m).map bv) hx (by simp) ?_ (B9 _) (by simp only [maxLen];omega) (by omega) LY ?_
  ·intro j u hu
   rw [cT]at hu;cases hj:(y::m)[j]? with
   | none=>rw [hj]at hu;cases hu
   | some z=>
    rw [hj]at hu;simp at hu;subst hu;obtain⟨b',off',he,hc⟩:=Rc j z hj;injection he with he;injection he with e1 e2;subst e1 e2;have Pl:(⟨b,off,none⟩:Addr).add j=⟨b,off+j,none⟩:=by
     unfold Addr.add;split <;>simp_all
    rw [Pl];exact hc
  ·intro v' w' h2 h3 h4
   refine h v' w' ?_ h3 h4;rw [eg,ah,bY];exact h2
section
section
variable {α:Type} {k:Nat} {enc:α ->List Value}
def ew (k:Nat) (enc:α ->List Value) (w:World) (v:Value) (l:List α):Prop:=
 ∃a cap,v= .slice a l.length cap/\l.length <=cap/\cap <=maxLen/\∀i x,l[i]?=some x ->∃b off,a=some ⟨b,off,none⟩/\b < w.heap.size/\∀j u,(enc x)[j]?=some u ->w.cell? ⟨b,off+i*k+j,none⟩=some u
theorem ew.below {w w':World} {v:Value} {l:List α} (h:ew k enc w v l) (hb:Below w.heap.size w w'):ew k enc w' v l:=by
 obtain⟨a,cap,hv,h1,h2,h3⟩:=h;refine⟨a,cap,hv,h1,h2,fun i x hx=>?_⟩;obtain⟨b,off,ha,Lw,hc⟩:=h3 i x hx;exact⟨b,off,ha,bK Lw hb.size,fun j u hu=>by rw [hb.cell Lw];exact hc j u hu⟩
theorem ew.nil (w:World):ew k enc w (.slice none 0 0) []:=⟨none,0,rfl,ag _,by simp [maxLen],by simp⟩
theorem kf (hk:∀x,(enc x).length=k) (l:List α):(l.flatMap enc).length=l.length*k:=by
 induction l with
 | nil=>simp
 | cons e l ih=>simp only [bS,ah,aF,ih,hk];rw [cU,Nat.one_mul,Nat.add_comm]
theorem rC (hk:∀x,(enc x).length=k):∀(l:List α) (i:Nat) (x:α) (j:Nat),l[i]?=some x ->j < k ->(l.flatMap enc)[i*k+j]?=(enc x)[j]?
 | [],i,x,j,h,_=>by simp at h
 | d::l,0,x,j,h,hj=>by
  simp at h;subst h;rw [bS,bm (by rw [hk];omega)];simp
 | d::l,i+1,x,j,h,hj=>by
  rw [bS,bp (by rw [hk,cU];omega)];rw [show(i+1)*k+j - (enc d).length=i*k+j from by rw [hk,cU];omega];exact rC hk l i x j (by simpa using h) hj
def ea (t:TypeId) (k:Nat) (enc:α ->List Value) (w:World) (B:Nat) (v:Value) (l:List α):Prop:=w.ownsRow B t k v l.length (l.flatMap enc)
variable {t:TypeId}
theorem ea.nil (w:World) (B:Nat):ea t k enc w B (.slice none 0 0) []:=World.ownsRow_nil w B _ _
theorem ea.keeps {w w':World} {S:Nat ->Prop} {B:Nat} {v:Value} {l:List α} (h:ea t k enc w B v l) (hk:ee S w w') (hs:∀k,eH v k ->¬ S k):ea t k enc w' B v l:=mR h hk hs
theorem ea.below {w w':World} {B:Nat} {v:Value} {l:List α} (h:ea t k enc w B v l) (hk:Below w.heap.size w w'):ea t k enc w' B v l:=
 mR h (ee.eh (S:=fun _=>False) hk) (fun _ _ h=>h)
theorem ea.fR {w:World} {B:Nat} {v:Value} {l:List α} (hk:∀x,(enc x).length=k) (h:ea t k enc w B v l):ew k enc w v l:=by
 obtain⟨hl,hv | ⟨g,cap,cur,hv,hb,hg,hn,hm,hs,ht⟩⟩:=h
 ·obtain⟨rfl,h0⟩:=hv
  obtain rfl:l=[]:=aH h0;exact ew.nil w
 ·refine⟨_,cap,hv,hn,hm,fun i x hx=>⟨g,0,rfl,(cq.1 hg).1,fun j u hu=>?_⟩⟩
  have hj:j < k:=by rw [<- hk x];exact(aM.1 hu).1
  have hi:i < l.length:=(aM.1 hx).1;rw [cell_of_row w g _ cur _ _ hg,bP];have h1:=rC hk l i x j hx hj;rw [<- ht,cZ]at h1;have h2:i*k+j < l.length*k:=by
   have:(i+1)*k <=l.length*k:=cz _ hi;rw [cU]at this;omega
  rw [aJ h2]at h1;rw [<- hu, <- h1];simp
theorem fb {P:Program} (w:World) {ops:Array Oper} {rest:List Oper} {o:Oper} {a:Act} {Q:Exit ->Act ->World ->Prop} (O9:o.guard=none) (s x:Operand) (ts:TypeId)
  (ho:o.op= .call {callee:= .builtin .append,args:=#[s,x],argTypes:=#[ts,ts]})
  (z:Value) (bytes:Nat) (ht:P.underlying ts=some (.slice t)) (hi:(P.info? t).map (fun i=>(i.zero,i.size,i.bytes))=some (some z,k,bytes)) (hzs:z.cells.size=k) (h0:0 < k) (N7:bytes <=100000000)
  (B:Nat) (v:Value) (l:List α) (hs:a.eval s=v) (Lo:ea t k enc w B v l)
  (y:α) (cs:Array Value) (RG:cs=(enc y).toArray) (hk:(enc y).length=k) (h1:∀u∈enc y,u.oneCell'=true) (hx:a.eval x= .slice (some ⟨w.heap.size,0,none⟩) 1 1)
  (PC:l.length <=1000000) (LY:B <=w.heap.size)
  (h:∀v' w',ea t k enc w' B v' (l++[y]) ->ee (eH v) w w' ->eM w v v' ->wpList P ops Q rest (a.put o.dst v') w'):
  wpList P ops Q (o::rest) a (w.alloc (.cells cs t)):=by
 subst RG;obtain⟨i0,hi,NW,MP,Nu⟩:=bX hi;refine sJ (P:=P) w O9 s x ts ho B t i0 z k bytes ht hi NW MP Nu hzs h0 v l.length (l.flatMap enc) hs Lo (enc y) hx (by omega) h1 (by simp only [maxLen];omega) ?_ LY ?_
 ·have:(l.length+1)*bytes <=1000001*100000000:=dx (by omega) N7
  omega
 ·intro v' w' h2 h3 h4
  refine h v' w' ?_ h3 h4;simpa [ea] using h2
end
theorem ew.keeps {α:Type} {k:Nat} {enc:α ->List Value} {w w':World} {v:Value} {l:List α} {S:Nat ->Prop} (h:ew k enc w v l) (hk:ee S w w') (hs:∀a n cap,v= .slice (some a) n cap ->¬ S a.block):ew k enc w' v l:=by
 obtain⟨a,cap,hv,h1,h2,h3⟩:=h;refine⟨a,cap,hv,h1,h2,fun i x hx=>?_⟩;obtain⟨b,off,ha,Lw,hc⟩:=h3 i x hx;refine⟨b,off,ha,bK Lw hk.size,fun j u hu=>?_⟩;rw [bg (w:=w) (a:=⟨b,off+i*k+j,none⟩) (hk.block b Lw (by rw [hv,ha]at hs;exact hs _ _ _ rfl))];exact hc j u hu
theorem ea.block {α:Type} {t:TypeId} {k:Nat} {enc:α ->List Value} {w:World} {B:Nat} {u:Value} {l:List α} (h:ea t k enc w B u l):∀a n cap,u= .slice (some a) n cap ->B <=a.block/\a.block < w.heap.size:=by
 intro a n cap he;obtain⟨_,⟨hv,_⟩ | ⟨g,LO,cur,hv,hb,hg,_⟩⟩:=h
 ·rw [hv]at he;cases he
 ·rw [hv]at he
  injection he with e1 e2 e3;injection e1 with e1;subst e1;exact⟨hb,(cq.1 hg).1⟩
end
def CY (s:Int):List UInt8 ->Int
 | []=>s
 | x::l=>(x.toNat %128:Nat)+128*CY s l
def qG (l:List UInt8):Int:=match l.getLast? with
 | some x=>if x.toNat %128 < 64 then 0 else -1
 | none=>0
def As (l:List UInt8):Int:=CY (qG l) l
def jF (bits:Int) (l:List UInt8):Int × Nat × Int:=
 if(fo bits l).2≠0 then(0,0,(fo bits l).2)
 else if iy (As (l.take (fo bits l).1))=l.take (fo bits l).1/\ -(2^(bits.toNat - 1)) <=As (l.take (fo bits l).1)/\As (l.take (fo bits l).1) < 2^(bits.toNat - 1)then(As (l.take (fo bits l).1),(fo bits l).1,0)
 else(0,0,1)
def KX (bits:Int) (l:List UInt8) (w:World) (e:Ending) (w':World):Prop:=
 e= .returned (.tuple #[.int .i64 (jF bits l).1, .int .i64 (jF bits l).2.1, .int .i64 (jF bits l).2.2])/\Below w.heap.size w w'
def CG (n:Int):Int:=(n+9223372036854775808) %18446744073709551616 - 9223372036854775808
theorem JB (a c:Int) (ha:a %128=0) (h0:0 <=c) (h1:c < 128):bits .or .i64 a c=CG (a+c):=by
 unfold bits CG;simp only [IntKind.bits,IntKind.wrap_i64];have e1:(BitVec.ofInt 64 a).toNat=(a %18446744073709551616).toNat:=by simp [BitVec.toNat_ofInt]
 have e2:(BitVec.ofInt 64 c).toNat=c.toNat:=by
  have:(BitVec.ofInt 64 c).toNat=(c %18446744073709551616).toNat:=by simp [BitVec.toNat_ofInt]
  rw [this];omega
 have e3:(BitVec.ofInt 64 a ||| BitVec.ofInt 64 c).toNat=(a %18446744073709551616).toNat+c.toNat:=by
  rw [BitVec.toNat_or,e1,e2,nat_join 7 _ _ (by omega) (by omega)]
 have e4:=cX (fun n:Nat=>((n:Int)+9223372036854775808) %18446744073709551616 - 9223372036854775808) e3;refine Eq.trans e4 ?_;omega
theorem JJ:∀x:Fin 256,x.val&&&64=if x.val %128 < 64 then 0 else 64:=by decide+kernel
theorem zG (n:Nat) (h:n < 256):bits .and .u8 (n:Int) 64=if n %128 < 64 then 0 else 64:=by
 have h0:=u8_and_nat n 64 h (by omega);rw [JJ ⟨n,h⟩]at h0;refine h0.trans ?_;by_cases h:n %128 < 64
 ·rw [aJ h,aJ h];rfl
 ·rw [aC h,aC h];rfl
theorem JR (x:Int) (y:Nat) (hy:y < 256):
  bits .or .i64 (wrap64 (x*128)) (wrap64 (bits .andNot .u8 (y:Int) 128))=CG ((y %128:Nat)+128*x):=by
 rw [JO y hy];have h2:wrap64 ((y %128:Nat):Int)=((y %128:Nat):Int):=by unfold wrap64;omega
 rw [h2,JB _ _ (by unfold wrap64;omega) (by omega) (by omega)];unfold wrap64 CG;omega
theorem F0 (c x:Int):CG (c+128*CG x)=CG (c+128*x):=by
 unfold CG;omega
theorem zj {l:List UInt8} {j:Nat} {y:UInt8} (hy:l[j]?=some y):qG (l.take (j+1))=if y.toNat %128 < 64 then 0 else -1:=by
 obtain⟨Lw,he⟩:=aM.1 hy;have:(l.take (j+1)).getLast?=some y:=by
  rw [dR,aS,cD (by omega),dh,cZ,aJ (by omega),hy]
 rw [qG,this]
theorem D5:∀(f:Nat) (n:Int),-((128:Int)^(f+1)) <=2*n ->2*n < 128^(f+1) ->iN (f+1) n≠[]/\CY (qG (iN (f+1) n)) (iN (f+1) n)=n:=by
 intro f
 induction f with
 | zero=>
  intro n h h';rw [iN,aJ (by omega)];refine⟨by simp,?_⟩;simp only [qG,List.getLast?_singleton,CY];rw [fY (by omega)];split <;>omega
 | succ f ih=>
  intro n h h';rw [iN];split
  ·rename_i hs
   refine⟨by simp,?_⟩;simp only [qG,List.getLast?_singleton,CY];rw [fY (by omega)];split <;>omega
  ·rename_i hs
   rw [bW,bW]at h h';obtain⟨h1,h2⟩:=ih (n/128) (by rw [bW];omega) (by rw [bW];omega);refine⟨by simp,?_⟩;have h3:qG (b8 ((n %128).toNat+128)::iN (f+1) (n/128))=qG (iN (f+1) (n/128)):=by
    cases hc:iN (f+1) (n/128)with
    | nil=>exact absurd hc h1
    | cons x l=>simp [qG,de]
   rw [h3,CY,h2,fY (by omega)];omega
theorem rV {n:Int} (h: -9223372036854775808 <=n) (h':n < 9223372036854775808):As (iy n)=n:=(D5 9 n (by omega) (by omega)).2
theorem oA {x:Int} {n:Nat}:x/2^n=0↔0 <=x/\x < 2^n:=by
 have hp:(0:Int) < 2^n:=Int.pow_pos (by omega)
 constructor
 ·intro h
  have h1:=Int.emod_nonneg x (Int.ne_of_gt hp);have h2:=Int.emod_lt_of_pos x hp;have h3:=Int.mul_ediv_add_emod x (2^n);rw [h]at h3;omega
 ·rintro⟨h1,h2⟩
  exact Int.ediv_eq_zero_of_lt h1 h2
theorem sR {x:Int} {n:Nat}:x/2^n= -1↔-(2^n) <=x/\x < 0:=by
 have hp:(0:Int) < 2^n:=Int.pow_pos (by omega);have e:x/2^n=(x+2^n)/2^n - 1:=by
  have:=Int.add_mul_ediv_right x 1 (Int.ne_of_gt hp);rw [Int.one_mul]at this;omega
 rw [e];have:=@oA (x+2^n) n;omega
theorem Cr {bits:Int} {l:List UInt8} {k:Nat} {x:Int} (he:(fo bits l).2=0) (hk:k=(fo bits l).1) (hx:x=CG (CY (qG (l.take k)) (l.take k)))
  (hs:(l.take k==iy x)=true) (hr:x/2^(bits.toNat - 1)=0\/x/2^(bits.toNat - 1)= -1):jF bits l=(x,k,0):=by
 obtain⟨h1,h2,_⟩:=jq he;have hs':l.take k=iy x:=by simpa using hs
 have hx1: -9223372036854775808 <=x/\x < 9223372036854775808:=by rw [hx];unfold CG;omega
 have hv:As (l.take k)=x:=by rw [hs'];exact rV hx1.1 hx1.2
 rw [oA,sR]at hr;have hp:(0:Int) < 2^(bits.toNat - 1):=Int.pow_pos (by omega);rw [jF,aC (by rw [he];simp), <- hk,hv,aJ ⟨hs'.symm,by omega,by omega⟩]
theorem AF {bits:Int} {l:List UInt8} {k:Nat} {x:Int} (he:(fo bits l).2=0) (hk:k=(fo bits l).1) (hx:x=CG (CY (qG (l.take k)) (l.take k)))
  (hs:(l.take k==iy x)=false\/¬ (x/2^(bits.toNat - 1)=0\/x/2^(bits.toNat - 1)= -1)):jF bits l=(0,0,1):=by
 obtain⟨h1,h2,_⟩:=jq he;rw [jF,aC (by rw [he];simp), <- hk,aC];rintro⟨h3,h4,h5⟩;have h6:(2:Int)^(bits.toNat - 1) <=9223372036854775808:=by
  have h7:(2:Nat)^(bits.toNat - 1) <=2^63:=cQ (by omega) (by omega);have h8:((2^(bits.toNat - 1):Nat):Int) <=((2^63:Nat):Int):=Int.ofNat_le.2 h7;rw [Int.natCast_pow]at h8;exact h8
 have hv:x=As (l.take k):=by
  rw [hx, <- As];unfold CG;omega
 rcases hs with h | h
 ·rw [hv,h3,beq_self_eq_true]at h
  cases h
 ·apply h
  rw [oA,sR,hv];omega
theorem F6 {s:Int} {l:List UInt8} {k j:Nat} {y:UInt8} (hy:l[j]?=some y) (hj:j < k):CY s ((l.take k).drop j)=(y.toNat %128:Nat)+128*CY s ((l.take k).drop (j+1)):=by
 have h:(l.take k)[j]?=some y:=by rw [cZ,aJ hj];exact hy
 obtain⟨Lw,he⟩:=aM.1 h;rw [cA Lw,CY,he]
def SJ (l:List UInt8) (k:Nat) (w w':World) (x:Int) (i:Nat):Prop:=w'=w/\i <=k/\x=CG (CY (qG (l.take k)) ((l.take k).drop i))
theorem CP (b:Value) (l:List UInt8) (bits:Int) (w:World) (hb:eW w b l) (LC: -9223372036854775808 <=bits) (Lr:bits <=9223372036854775807):
  Calls prog 282 #[b, .int .i64 bits] w (KX bits l w):=by
 by_cases he:(fo bits l).2=0
 ·obtain⟨k,hk⟩:∃k,k=(fo bits l).1:=⟨_,rfl⟩
  have HK:=V hk;have Qv:=V hb;obtain⟨Mf,Nl,MA,Lv,L5⟩:=jq he;have Qw:1 <=k:=by omega
  have Mm:k <=l.length:=by omega
  have P2:k <=10:=by omega
  clear MA Lv L5;obtain⟨a,cap,rfl,hl,hm,hc⟩:=hb;unfold maxLen at hm;have HC:=V hc;have HE:=V he;clear hc hk he;go_enter func282,ntmps282;go_wp2;refine ku 0 (fun a' w'=>∃(x:Int) (i:Nat) (u8 RI QW RJ RK RL u16 RM RN RO u20 u21 u22 u23 u24 u25 u26 u27 u28 u29 u30 u31 u32 u33 u34 u35 u36 u37 u38 u39 u40 u41 u42 u43 u44 u45 u46 u47 u48 u49 u50 u51 u52 u53 u54 u55 u56 u57 u58 u59 u60 u61 u62:Value),a'={tmps:=#[.slice a l.length cap, .int .i64 bits,undef,undef, .int .i64 0, .int .i64 0, .int .i64 0, .int .i64 k,u8, .int .i64 x, .int .i64 i,RI,QW,RJ,RK,RL,u16,RM,RN,RO,u20,u21,u22,u23,u24,u25,u26,u27,u28,u29,u30,u31,u32,u33,u34,u35,u36,u37,u38,u39,u40,u41,u42,u43,u44,u45,u46,u47,u48,u49,u50,u51,u52,u53,u54,u55,u56,u57,u58,u59,u60,u61,u62],defers:=[]}/\SJ l k w w' x i) (fun a' _=>(intOf (a'.tmps.getD 10 undef)).toNat) rfl ?_ ?_
  ·rintro a' w1 ⟨x,i,u8,RI,QW,RJ,RK,RL,u16,RM,RN,RO,u20,u21,u22,u23,u24,u25,u26,u27,u28,u29,u30,u31,u32,u33,u34,u35,u36,u37,u38,u39,u40,u41,u42,u43,u44,u45,u46,u47,u48,u49,u50,u51,u52,u53,u54,u55,u56,u57,u58,u59,u60,u61,u62,rfl,hJ⟩
   obtain⟨rfl,hik,hx⟩:=hJ;have HX:=V hx;clear hx;by_cases hi:i=0
   ·subst hi
    rw [List.drop_zero]at HX;have N9: -9223372036854775808 <=x/\x <=9223372036854775807:=by rw [HX.out];unfold CG;omega
    have hbt:eW w1 (.slice a k cap) (l.take k):=Qv.out.take k Mm;have HBT:=V hbt;clear hbt;by_cases hs:(l.take k==iy x)=true
    ·by_cases hr:x/2^(bits.toNat - 1)=0
     ·have r1:=eQ hr
      have r2:(x/2^(bits.toNat - 1) !=0)=false:=jI hr;have HR:=V hr;clear hr;have HS:=V hs;clear hs;go_wp2_with fail;refine eu (fun _=>True) (up 0 4 ((4,false)::(5,false)::up 6 9 [])) (by kernel_rfl) (by kernel_rfl) trivial ?_;iterate 4 (first | (apply sk rfl rfl;simp only [pt]) | (apply ef rfl rfl rfl;·(intro w' _;go_wp2;exact⟨rfl,rfl,rfl⟩)))
      refine eo rfl rfl ?_;go_wp2_with (go_at_call 236;refine(nq _ [] x N9.1 N9.2 w1.heap.size _ (eg.nil _ _) (by simp) (by simp)).mono ?_;rintro e w2 ⟨v2,rfl,LL,Lv,LB⟩);have Lr:=gd (Lv.below (ag _) (by intro i hi;cases hi));refine⟨trivial,?_⟩;refine eo rfl rfl ?_;go_wp2_with (go_at_call 269;refine(mf _ _ (l.take k) (iy x) _ (HBT.out.below Lr) LL.fF).mono ?_;rintro e w3 ⟨rfl,rfl⟩;rw [HS.out]);refine⟨trivial,?_⟩;iterate 9 (first | (apply sk rfl rfl;simp only [pt]) | (apply ef rfl rfl rfl;·(intro w' _;go_wp2;exact⟨rfl,rfl,rfl⟩)))
      refine eV ?_;refine aD ?_;go_wp2;rw [iV]
      go_ret3
      refine⟨?_,Lr⟩;rw [Cr HE.out HK.out HX.out HS.out (.inl HR.out)];rfl
     by_cases hr':x/2^(bits.toNat - 1)= -1
     ·have r1:=eQ hr'
      have r2:(x/2^(bits.toNat - 1) !=0)=true:=fw hr;have r3:(x/2^(bits.toNat - 1) != -1)=false:=jI hr';have HR:=V hr';clear hr hr';have HS:=V hs;clear hs;go_wp2_with fail;refine eu (fun _=>True) (up 0 4 ((4,false)::(5,false)::up 6 9 [])) (by kernel_rfl) (by kernel_rfl) trivial ?_;iterate 4 (first | (apply sk rfl rfl;simp only [pt]) | (apply ef rfl rfl rfl;·(intro w' _;go_wp2;exact⟨rfl,rfl,rfl⟩)))
      refine eo rfl rfl ?_;go_wp2_with (go_at_call 236;refine(nq _ [] x N9.1 N9.2 w1.heap.size _ (eg.nil _ _) (by simp) (by simp)).mono ?_;rintro e w2 ⟨v2,rfl,LL,Lv,LB⟩);have Lr:=gd (Lv.below (ag _) (by intro i hi;cases hi));refine⟨trivial,?_⟩;refine eo rfl rfl ?_;go_wp2_with (go_at_call 269;refine(mf _ _ (l.take k) (iy x) _ (HBT.out.below Lr) LL.fF).mono ?_;rintro e w3 ⟨rfl,rfl⟩;rw [HS.out]);refine⟨trivial,?_⟩;iterate 9 (first | (apply sk rfl rfl;simp only [pt]) | (apply ef rfl rfl rfl;·(intro w' _;go_wp2;exact⟨rfl,rfl,rfl⟩)))
      refine eV ?_;refine aD ?_;go_wp2;rw [iV]
      go_ret3
      refine⟨?_,Lr⟩;rw [Cr HE.out HK.out HX.out HS.out (.inr HR.out)];rfl
     ·have r2:(x/2^(bits.toNat - 1) !=0)=true:=fw hr
      have r3:(x/2^(bits.toNat - 1) != -1)=true:=fw hr';have HR:=V hr;have HR':=V hr';clear hr hr';have HS:=V hs;clear hs;go_wp2_with fail;refine eu (fun _=>True) (up 0 4 ((4,false)::(5,false)::up 6 9 [])) (by kernel_rfl) (by kernel_rfl) trivial ?_;iterate 4 (first | (apply sk rfl rfl;simp only [pt]) | (apply ef rfl rfl rfl;·(intro w' _;go_wp2;exact⟨rfl,rfl,rfl⟩)))
      refine eo rfl rfl ?_;go_wp2_with (go_at_call 236;refine(nq _ [] x N9.1 N9.2 w1.heap.size _ (eg.nil _ _) (by simp) (by simp)).mono ?_;rintro e w2 ⟨v2,rfl,LL,Lv,LB⟩);have Lr:=gd (Lv.below (ag _) (by intro i hi;cases hi));refine⟨trivial,?_⟩;refine eo rfl rfl ?_;go_wp2_with (go_at_call 269;refine(mf _ _ (l.take k) (iy x) _ (HBT.out.below Lr) LL.fF).mono ?_;rintro e w3 ⟨rfl,rfl⟩;rw [HS.out]);refine⟨trivial,?_⟩;iterate 9 (first | (apply sk rfl rfl;simp only [pt]) | (apply ef rfl rfl rfl;·(intro w' _;go_wp2;exact⟨rfl,rfl,rfl⟩)))
      refine eV ?_;refine aD ?_;go_wp2;rw [iV]
      go_ret3
      refine⟨?_,Lr⟩;rw [AF HE.out HK.out HX.out (.inr (fun h=>h.elim HR.out HR'.out))];rfl
    ·rw [Bool.not_eq_true]at hs
     have HS:=V hs;clear hs;go_wp2_with fail;refine eu (fun _=>True) (up 0 4 ((4,false)::(5,false)::up 6 9 [])) (by kernel_rfl) (by kernel_rfl) trivial ?_;iterate 4 (first | (apply sk rfl rfl;simp only [pt]) | (apply ef rfl rfl rfl;·(intro w' _;go_wp2;exact⟨rfl,rfl,rfl⟩)))
     refine eo rfl rfl ?_;go_wp2_with (go_at_call 236;refine(nq _ [] x N9.1 N9.2 w1.heap.size _ (eg.nil _ _) (by simp) (by simp)).mono ?_;rintro e w2 ⟨v2,rfl,LL,Lv,LB⟩);have Lr:=gd (Lv.below (ag _) (by intro i hi;cases hi));refine⟨trivial,?_⟩;refine eo rfl rfl ?_;go_wp2_with (go_at_call 269;refine(mf _ _ (l.take k) (iy x) _ (HBT.out.below Lr) LL.fF).mono ?_;rintro e w3 ⟨rfl,rfl⟩;rw [HS.out]);refine⟨trivial,?_⟩;iterate 9 (first | (apply sk rfl rfl;simp only [pt]) | (apply ef rfl rfl rfl;·(intro w' _;go_wp2;exact⟨rfl,rfl,rfl⟩)))
     refine eV ?_;refine aD ?_;go_wp2;rw [iV]
     go_ret3
     refine⟨?_,Lr⟩;rw [AF HE.out HK.out HX.out (.inl HS.out)];rfl
   ·obtain⟨j,rfl⟩:∃j,i=j+1:=⟨i - 1,by omega⟩
    obtain⟨y,hy⟩:∃y,l[j]?=some y:=⟨_,aw (show j < l.length by omega)⟩;obtain⟨b,off,rfl,hc⟩:=HC.out j y hy;have hy8:=y.toNat_lt;have HY:=V hy;clear hy;have Lw:j < l.length:=by omega
    go_wp2_with fail
    go_step3
    simp only [Exit.then];rw [JR x y.toNat hy8];refine lV ⟨_,j,_,_,_,_,_,_,_,_,_,_,_,_,_,_,_,_,_,_,_,_,_,_,_,_,_,_,_,_,_,_,_,_,_,_,_,_,_,_,_,_,_,_,_,_,_,_,_,_,_,_,_,_,_,rfl,rfl,by omega,?_⟩ ?_
    ·rw [F6 HY.out (by omega),HX.out,F0]
    ·simp [intOf]
  ·intro H
   have Hh:=V H;clear H;obtain⟨y,hy⟩:∃y,l[k - 1]?=some y:=⟨_,aw (show k - 1 < l.length by omega)⟩;obtain⟨b,off,rfl,hc⟩:=HC.out (k - 1) y hy;obtain⟨j,rfl⟩:∃j,k=j+1:=⟨k - 1,by omega⟩;rw [dh]at hc;have hy8:=y.toNat_lt;have HY:=V hy;clear hy;have Ov:=zG y.toNat hy8;have HB6:=V Ov;clear Ov;rcases bD (y.toNat %128) 64 with hy6 | hy6
   ·have r1:(Go.bits .and .u8 (y.toNat:Int) 64 !=0)=false:=by rw [HB6.out,aJ hy6];rfl
    go_wp2_with (go_at_call 268;refine(nk _ l _ _ Qv.out (by omega) (by omega)).mono ?_;rintro e w' ⟨rfl,rfl⟩;rw [HE.out, <- HK.out])
    go_step3
    go_step
    go_step
    refine Hh.out _ _ ⟨_,j+1,_,_,_,_,_,_,_,_,_,_,_,_,_,_,_,_,_,_,_,_,_,_,_,_,_,_,_,_,_,_,_,_,_,_,_,_,_,_,_,_,_,_,_,_,_,_,_,_,_,_,_,_,_,rfl,rfl,ag _,?_⟩;rw [List.drop_eq_nil_of_le (by rw [aS];omega),CY,zj (j:=j) HY.out,aJ hy6];rfl
   ·have r1:(Go.bits .and .u8 (y.toNat:Int) 64 !=0)=true:=by rw [HB6.out,aC (by omega)];rfl
    go_wp2_with (go_at_call 268;refine(nk _ l _ _ Qv.out (by omega) (by omega)).mono ?_;rintro e w' ⟨rfl,rfl⟩;rw [HE.out, <- HK.out])
    go_step3
    go_step
    go_step
    refine Hh.out _ _ ⟨_,j+1,_,_,_,_,_,_,_,_,_,_,_,_,_,_,_,_,_,_,_,_,_,_,_,_,_,_,_,_,_,_,_,_,_,_,_,_,_,_,_,_,_,_,_,_,_,_,_,_,_,_,_,_,_,rfl,rfl,ag _,?_⟩;rw [List.drop_eq_nil_of_le (by rw [aS];omega),CY,zj (j:=j) HY.out,aC (by omega)];rfl
 ·have HE:=V he
  have Qv:=V hb;have HB:=V (ed he);clear he hb;go_enter func282,ntmps282;go_wp2
  go_step3
  go_wp2_with (go_at_call 268;refine(nk _ l _ _ Qv.out (by omega) (by omega)).mono ?_;rintro e w' ⟨rfl,rfl⟩;have hb:=HB.out);rw [Exit.noGoto_ret]
  go_ret3
  refine⟨?_,an _ _⟩;rw [jF,aJ HE.out];rfl
structure fm where
 kind:Int
 n:Int
deriving DecidableEq
def gw (v:fm):List Value:=[.int .i64 v.kind, .int .i64 v.n]
theorem gB (v:fm):(gw v).length=2:=rfl
theorem mi (v:fm):∀u∈gw v,u.oneCell'=true:=by
 intro u hu;simp only [gw,bB,bN,cY]at hu;rcases hu with rfl | rfl <;>rfl
def fm.ok (v:fm):Prop:=(-9223372036854775808 <=v.kind/\v.kind <=9223372036854775807)/\(-9223372036854775808 <=v.n/\v.n <=9223372036854775807)
def fm.may (v:fm):Prop:=v.kind=2\/v.kind=1/\ -2147483648 <=v.n/\v.n <=2147483647
instance (v:fm):Decidable v.may:=by unfold fm.may;infer_instance
def eF (b:Bool) (w:World) (e:Ending) (w':World):Prop:=e= .returned (.bool b)/\Below w.heap.size w w'
theorem nC (v:fm) (w:World):Calls prog 135 #[.agg #[.int .i64 v.kind, .int .i64 v.n]] w (eF (decide v.may) w):=by
 by_cases q0:v.kind=2
 ·have f0:=eQ q0
  have Q0:=V q0;clear q0;rw [show decide v.may=true from aA (.inl Q0.out)];go_enter func135,ntmps135;go_wp2_with fail;go_ret;exact⟨rfl,(an _ _).alloc (ag _) _⟩
 have f0:=ed q0;by_cases q1:v.kind=1
 ·have f1:=eQ q1
  by_cases q2: -2147483648 <=v.n
  ·have f2:decide (-2147483648 <=v.n)=true:=aA q2
   by_cases q3:v.n <=2147483647
   ·have f3:decide (v.n <=2147483647)=true:=aA (by omega)
    have Q1:=V q1;clear q1 q0;rw [show decide v.may=true from aA (.inr ⟨Q1.out,q2,q3⟩)];go_enter func135,ntmps135;go_wp2_with fail;go_ret;exact⟨rfl,(an _ _).alloc (ag _) _⟩
   ·have f3:decide (v.n <=2147483647)=false:=aq (by omega)
    have Q0:=V q0;clear q0 q1;rw [show decide v.may=false from aq (fun h=>h.elim Q0.out (fun h=>q3 h.2.2))];go_enter func135,ntmps135;go_wp2_with fail;go_ret;exact⟨rfl,(an _ _).alloc (ag _) _⟩
  ·have f2:decide (-2147483648 <=v.n)=false:=aq q2
   have Q0:=V q0;clear q0 q1;rw [show decide v.may=false from aq (fun h=>h.elim Q0.out (fun h=>q2 h.2.1))];go_enter func135,ntmps135;go_wp2_with fail;go_ret;exact⟨rfl,(an _ _).alloc (ag _) _⟩
 ·have f1:=ed q1
  have Q0:=V q0;have Q1:=V q1;clear q0 q1;rw [show decide v.may=false from aq (fun h=>h.elim Q0.out (fun h=>Q1.out h.1))];go_enter func135,ntmps135;go_wp2_with fail;go_ret;exact⟨rfl,(an _ _).alloc (ag _) _⟩
def tc {α:Type} (p:α ->Bool) (l:List α):Int:=match l.findIdx? p with | some i=>i | none=> -1
theorem iA {α:Type} {p:α ->Bool} {l:List α} {k:Nat} {e:α} (he:l[k]?=some e) (hn:p e=true) (hb:∀i,i < k ->∀d,l[i]?=some d ->p d=false):tc p l=k:=by
 obtain⟨hk,rfl⟩:=aM.1 he;have:l.findIdx? p=some k:=by
  rw [List.findIdx?_eq_some_iff_getElem];refine⟨hk,hn,fun j hj=>?_⟩;rw [hb j hj _ (aw (by omega))];simp
 rw [tc,this]
theorem hI {α:Type} {p:α ->Bool} {l:List α} (hb:∀i,i < l.length ->∀d,l[i]?=some d ->p d=false):tc p l= -1:=by
 have:l.findIdx? p=none:=by
  rw [List.findIdx?_eq_none_iff];intro x hx;obtain⟨i,hi⟩:=List.mem_iff_getElem?.1 hx;exact hb i (aM.1 hi).1 x hi
 rw [tc,this]
theorem iK {α:Type} (p:α ->Bool) (l:List α):decide (0 <=tc p l)=l.any p:=by
 unfold tc;cases h:l.findIdx? p with
 | none=>
  rw [List.findIdx?_eq_none_iff]at h;have:l.any p=false:=by rw [dI];intro x hx;rw [h x hx];simp
  rw [this];rfl
 | some i=>
  rw [List.findIdx?_eq_some_iff_getElem]at h;obtain⟨hi,h1,_⟩:=h;have:l.any p=true:=List.any_eq_true.2 ⟨_,List.getElem_mem hi,h1⟩;rw [this];exact aA (by show(0:Int) <=(i:Int);omega)
def kj {α:Type} (p:α ->Bool) (l:List α) (w:World) (e:Ending) (w':World):Prop:=e= .returned (.int .i64 (tc p l))/\Below w.heap.size w w'
def qc {α:Type} (p:α ->Bool) (l:List α) (w w':World) (k:Nat):Prop:=k <=l.length/\(∀i,i < k ->∀d,l[i]?=some d ->p d=false)/\Below w.heap.size w w'
def fE (xs ys:List UInt8) (B:Nat) (b:Value) (w:World) (e:Ending) (w':World):Prop:=
 ∃v',e= .returned v'/\eg w' B v' (xs++ys)/\ee (eH b) w w'/\eM w b v'
theorem mc (b:Value) (xs:List UInt8) (u:Nat) (h1:u <=9223372036854775807) (B:Nat) (w:World) (Lo:eg w B b xs) (hn:xs.length <=1000000000) (hB:B <=w.heap.size):
  Calls prog 119 #[b, .int .i64 u] w (fE xs (eY u) B b w):=by
 go_enter func119,ntmps119;go_wp2_with fail;refine(jk b xs u (by omega) B w Lo hn hB).mono ?_;rintro x w2 ⟨v,rfl,h2,h3,h4⟩;go_wp2_with fail;go_ret;exact⟨v,rfl,h2,h3,h4⟩
def rK (v:fm):List UInt8:=eY v.kind.toNat++iy v.n
def jU (l:List fm):List UInt8:=eY l.length++(l.map rK).flatten
theorem tF {n:Int} (h1: -9223372036854775808 <=n) (h2:n <=9223372036854775807):1 <=(iy n).length/\(iy n).length <=10:=by
 obtain⟨p,z,e1,_,_,e4⟩:=pA 9 n (by omega) (by omega);change iy n=p++[z]at e1;rw [e1];simp;omega
theorem E5 {v:fm} (h:v.ok):(rK v).length <=20:=by
 have h1:=(eO v.kind.toNat).2;have h2:=(tF h.2.1 h.2.2).2;rw [rK,ah];omega
theorem n5:∀l:List fm,(∀v∈l,v.ok) ->((l.map rK).flatten).length <=20*l.length
 | [],_=>by simp
 | v::l,h=>by
  have h1:=E5 (h v (by simp));have h2:=n5 l (fun x hx=>h x (by simp [hx]));simp only [bG,bT,ah,aF];omega
def Kg (xs:List UInt8) (l:List fm) (B:Nat) (b:Value) (w w':World) (v:Value) (k:Nat):Prop:=
 k <=l.length/\eg w' B v (xs++(eY l.length++((l.take k).map rK).flatten))/\ee (eH b) w w'/\eM w b v
theorem sE (b:Value) (xs:List UInt8) (vl:Value) (l:List fm) (B:Nat) (w:World) (Lo:eg w B b xs) (hn:xs.length <=100000) (hB:B <=w.heap.size)
  (hl:ew 2 gw w vl l) (hm:∀v∈l,v.may) (Ly:∀v∈l,v.ok) (Pa:l.length <=1000) (hvb:l≠[] ->∀i,eH b i ->∀a n c,vl= .slice (some a) n c ->a.block≠i):
  Calls prog 120 #[b,vl] w (fE xs (jU l) B b w):=by
 have HI:=V hl;have ME:=V Ly;have HM:=V hm;have HVB:=V hvb;obtain⟨a,cap,rfl,h1,h2,_⟩:=hl;unfold maxLen at h2;clear Ly hm hvb;go_enter func120,ntmps120;go_wp2_with fail;refine(mc b xs l.length (by omega) B w Lo (by omega) hB).mono ?_;rintro x w1 ⟨v,rfl,ho,hk,hs⟩;go_wp2_with fail;refine eJ (fun a' w'=>∃(v:Value) (k:Nat),a'=fr (v:: .slice a l.length cap::gs a' 2 9 (.slice a l.length cap:: .int .i64 l.length:: .int .i64 k::gs a' 14 12 []))/\Kg xs l B b w w' v k) (fun a' _=>(l.length - (intOf (a'.tmps.getD 13 undef)).toNat)) ?_ ?_
 ·exact⟨v,0,rfl,by omega,by simpa using ho,hk,hs⟩
 ·clear ho hk hs
  rintro R a' w1 ⟨v,k,Lp,hJ⟩ HR;dsimp only [fr,gs]at Lp;generalize slot a'=f at Lp;subst Lp;obtain⟨Mm,ho,hk,hs⟩:=hJ;have Mr:=hk.size;by_cases Lw:k < l.length
  ·obtain⟨e,he⟩:∃e,l[k]?=some e:=⟨_,aw Lw⟩
   obtain⟨a',LO,hv,_,_,Ln⟩:=HI.out;injection hv with e1 e2 e3;subst e1 e3;obtain⟨bb,off,rfl,Nc,hc⟩:=Ln k e he;have Nm:¬ eH b bb:=fun h=>HVB.out (by rintro rfl;simp at Lw) bb h _ _ _ rfl rfl;have MF:∀j u,(gw e)[j]?=some u ->w1.cell? ⟨bb,off+k*2+j,none⟩=some u:=fun j u hu=>by
    rw [bg (w:=w) (a:=⟨bb,off+k*2+j,none⟩) (hk.block bb Nc Nm)];exact hc j u hu
   have c0:=MF 0 _ rfl;have c1:=MF 1 _ rfl;rw [aK]at c0;have hme:=HM.out e (aO he);obtain⟨⟨m1,m2⟩,m3,m4⟩:=ME.out e (aO he);obtain⟨n0,MZ⟩:∃n:Nat,e.kind=n:=⟨e.kind.toNat,by rcases hme with h | h <;>omega⟩;have hn2:n0 <=2:=by rcases hme with h | h <;>omega
   rw [MZ]at m1 m2 c0;have hlen:(xs++(eY l.length++((l.take k).map rK).flatten)).length <=200000:=by
    have g1:=(eO l.length).2;have g2:=n5 (l.take k) (fun x hx=>ME.out x (cF hx));have g3:(l.take k).length <=1000:=by rw [aS];omega
    simp only [ah];omega
   have HV:=V (show rK e=eY n0++iy e.n by rw [rK,MZ];rfl);have HE:=V he;generalize hL:xs++(eY l.length++((l.take k).map rK).flatten)=L at ho hlen;have HL:=V hL;clear hL Ln hc MF e2 he hme MZ;have Nq:∀i,eH v i ->i≠w1.heap.size:=fun i hi=>by have:=(eE ho hi).2;omega
   have HX0:=V Nq;clear Nq;go_wp2_with fail;refine eu (fun w'=>w'.cell? ⟨w1.heap.size,0,none⟩=some (.int .i64 n0)/\w'.cell? ⟨w1.heap.size,1,none⟩=some (.int .i64 e.n)) (up 0 3 ((4,true)::(5,true)::(3,false)::(6,false)::(7,true)::[])) (by kernel_rfl) (by kernel_rfl) ⟨by simp,by simp⟩ ?_;iterate 5 (first | (apply sk rfl rfl;simp only [pt]) | (apply ef rfl rfl rfl;·(rintro w' ⟨t0,t1⟩;go_wp2;exact⟨rfl,rfl,rfl⟩)))
   refine eo rfl rfl ?_;go_wp2_with fail;have MA:ee (eH v) w1 (w1.alloc (.cells #[.int .i64 n0, .int .i64 e.n] 42)).drew:=((ee.refl _ _).alloc _).drew;have MQ:eP (w1.alloc (.cells #[.int .i64 n0, .int .i64 e.n] 42)).drew w1.heap.size #[.int .i64 n0, .int .i64 e.n] 42:=(eP.new w1 _ _).drew;refine(mc v L n0 (by omega) B _ (ho.keeps (((ee.refl (fun _=>False) w1).alloc _).drew) (fun _ _ h=>h)) (by omega) (by simp;have:=(ee.refl (eH v) w1);omega)).mono ?_;rintro x w2 ⟨v2,rfl,LL,Lv,LB⟩;have Oa:=MQ.keeps Lv (fun h=>HX0.out _ h rfl);have Pf:(eY n0).length <=10:=(eO _).2;go_wp2_with fail;refine⟨⟨Oa.cell 0,Oa.cell 1⟩,?_⟩;refine eo rfl rfl ?_;have OU:=Lv.size;simp only [World.size_drew,aE]at OU;go_wp2_with fail;refine(nq v2 _ e.n m3 m4 B w2 LL (by simp only [ah];omega) (by omega)).mono ?_;rintro x w3 ⟨v3,rfl,MB,L5,M0⟩;have Qx:=Oa.keeps L5 (fun h=>by
    rcases LB _ h with g | g
    ·exact HX0.out _ g rfl
    ·simp at g
     omega)
   have Re:ee (eH v) w1 w2:=MA.trans Lv (fun i h=> .inl h);have hs12:eM w1 v v2:=fun i hi=>(LB i hi).imp id (fun g=>by simp at g;omega);have Rf:ee (eH v) w1 w3:=Re.trans L5 (fun i h=>(hs12 i h));have hs13:eM w1 v v3:=hs12.trans M0 Re.size;have hkf:ee (eH b) w w3:=hk.trans Rf (fun i h=>(hs i h));have hsf:eM w b v3:=hs.trans hs13 hk.size;clear Lv LB L5 M0 Re hs12 Rf hs13 MA MQ Oa;go_wp2_with fail;refine⟨⟨Qx.cell 0,Qx.cell 1⟩,?_⟩;iterate 1 (first | (apply sk rfl rfl;simp only [pt]) | (apply ef rfl rfl rfl;·(rintro w' ⟨t0,t1⟩;go_wp2;exact⟨rfl,rfl,rfl⟩)))
   refine eV ?_;refine aD ?_;go_wp2_with fail;refine HR.out _ _ ⟨v3,k+1,rfl,by omega,?_,hkf,hsf⟩ ?_
   ·have e1:xs++(eY l.length++((l.take (k+1)).map rK).flatten)=L++eY n0++iy e.n:=by
     rw [<- HL.out,aR,HE.out];simp [HV.out]
    rw [e1];exact MB
   ·simp [intOf]
    omega
  ·obtain rfl:k=l.length:=by omega
   go_wp2_with fail;go_ret;refine⟨v,rfl,?_,hk,hs⟩;rw [aV]at ho;exact ho
theorem Ch (u:Nat) (rest:List UInt8) (hu:u < 4611686018427387904):ix 62 (eY u++rest)=(u,(eY u).length,0):=by
 obtain⟨p,z,h1,h2,h3,h4⟩:=rH 9 u (by omega);change eY u=p++[z]at h1;have hp:p.length <=8:=by
  rcases so 10 u (by omega)with h | h
  ·change(eY u).length <=1 at h
   rw [h1]at h;simp at h;simp [h]
  ·change 128^((eY u).length - 1) <=u at h
   rw [h1,ah,aB,dh]at h;rcases bD 8 p.length with g | g
   ·have:(128:Nat)^9 <=128^p.length:=cQ (by omega) g
    omega
   ·exact g
 have hl:fo 62 (eY u++rest)=((eY u).length,0):=by
  rw [h1,aP,dK];unfold fo;rw [aC (by omega),oL p z rest h2 h3,aC (by omega),aC (by simp)];simp
 unfold ix;rw [hl,aC (by simp)];have ht:(eY u++rest).take (eY u).length=eY u:=cP;simp only [ht];rw [si (by omega),aJ ⟨rfl,by simpa using hu⟩]
theorem rY {l:List UInt8} (h:(ix 62 l).2.2=0):∃u rest,u < 4611686018427387904/\l=eY u++rest/\ix 62 l=(u,(eY u).length,0):=by
 unfold ix at h⊢;by_cases h1:(fo 62 l).2≠0
 ·rw [aJ h1]at h
  exact absurd h h1
 ·rw [aC h1]at h⊢
  by_cases h2:eY (oF (l.take (fo 62 l).1))=l.take (fo 62 l).1/\oF (l.take (fo 62 l).1) < 2^(62:Int).toNat
  ·rw [aJ h2]
   obtain⟨_,_,k1,k2,_⟩:=jq (dJ.1 h1);refine⟨_,l.drop (fo 62 l).1,by simpa using h2.2,by rw [h2.1,cn],?_⟩;rw [h2.1,aS,cD (by omega)]
  ·rw [aC h2]at h
   cases h
theorem vu (n:Int) (rest:List UInt8) (h0: -9223372036854775808 <=n) (h1:n <=9223372036854775807):jF 64 (iy n++rest)=(n,(iy n).length,0):=by
 obtain⟨p,z,e1,e2,e3,e4⟩:=pA 9 n (by omega) (by omega);change iy n=p++[z]at e1;have hl:fo 64 (iy n++rest)=((iy n).length,0):=by
  rw [e1,aP,dK];unfold fo;rw [aC (by omega),oL p z rest e2 e3,aC (by omega),aC (by simp)];simp
 unfold jF;rw [hl,aC (by simp)];have ht:(iy n++rest).take (iy n).length=iy n:=cP;simp only [ht];have h2:n < 9223372036854775808:=by omega
 rw [rV h0 h2,aJ ⟨rfl,h0,h2⟩]
theorem wM {l:List UInt8} (h:(jF 64 l).2.2=0):∃(n:Int) (rest:List UInt8),(-9223372036854775808 <=n/\n <=9223372036854775807)/\l=iy n++rest/\jF 64 l=(n,(iy n).length,0):=by
 unfold jF at h⊢;by_cases h1:(fo 64 l).2≠0
 ·rw [aJ h1]at h
  exact absurd h h1
 ·rw [aC h1]at h⊢
  split at h
  ·rename_i h2
   rw [aJ h2];obtain⟨_,_,k1,k2,_⟩:=jq (dJ.1 h1);refine⟨_,l.drop (fo 64 l).1,?_,by rw [h2.1,cn],?_⟩
   ·have:=h2.2
    simp at this;omega
   ·rw [h2.1,aS,cD (by omega)]
  ·cases h
def fS:Option (List UInt8) ->Nat × Option (List UInt8)
 | none=>(0,none)
 | some l=>if(ix 62 l).2.2=0 then((ix 62 l).1,some (l.drop (ix 62 l).2.1))else(0,none)
def nU:Option (List UInt8) ->Int × Option (List UInt8)
 | none=>(0,none)
 | some l=>if(jF 64 l).2.2=0 then((jF 64 l).1,some (l.drop (jF 64 l).2.1))else(0,none)
theorem xd (l:List UInt8):fS (some l)=if(ix 62 l).2.2=0 then((ix 62 l).1,some (l.drop (ix 62 l).2.1))else(0,none):=rfl
theorem wS (l:List UInt8):nU (some l)=if(jF 64 l).2.2=0 then((jF 64 l).1,some (l.drop (jF 64 l).2.1))else(0,none):=rfl
theorem kB (u:Nat) (r:List UInt8) (hu:u < 4611686018427387904):fS (some (eY u++r))=(u,some r):=by
 simp only [fS,Ch u r hu,dc,df]
theorem Fw (n:Int) (r:List UInt8) (h0: -9223372036854775808 <=n) (h1:n <=9223372036854775807):nU (some (iy n++r))=(n,some r):=by
 simp only [nU,vu n r h0 h1,dc,df]
def ou:Option (List UInt8) ->Nat
 | none=>0
 | some l=>l.length+1
theorem tz (l:List UInt8):ou (fS (some l)).2+1 <=ou (some l):=by
 rw [xd];split
 ·rename_i h
  obtain⟨u,r,_,hl,hr⟩:=rY h;have:=(eO u).1;have h2:=cX List.length hl;rw [ah]at h2;simp only [hr,ou,bu];omega
 ·simp [ou]
theorem nt (st:Option (List UInt8)):ou (fS st).2 <=ou st:=by
 cases st with
 | none=>simp [fS]
 | some l=>have:=tz l;omega
theorem Hn (st:Option (List UInt8)):ou (nU st).2 <=ou st:=by
 cases st with
 | none=>simp [nU]
 | some l=>
  rw [wS];split
  ·simp only [ou,bu]
   omega
  ·simp [ou]
theorem lZ (st:Option (List UInt8)):(fS st).1 < 4611686018427387904:=by
 cases st with
 | none=>simp [fS]
 | some l=>
  rw [xd];split
  ·rename_i h
   obtain⟨u,r,hu,_,hr⟩:=rY h;simp only [hr];exact hu
  ·simp
theorem It (st:Option (List UInt8)): -9223372036854775808 <=(nU st).1/\(nU st).1 <=9223372036854775807:=by
 cases st with
 | none=>simp [nU]
 | some l=>
  rw [wS];split
  ·rename_i h
   obtain⟨n,r,hn,_,hr⟩:=wM h;simp only [hr];exact hn
  ·simp
def Rd (B0:Nat) (w:World) (R:Nat) (st:Option (List UInt8)):Prop:=
 ∃a n cap,eP w R #[.slice a n cap, .bool st.isNone] 203/\∃l,(l≠[] ->∀ad,a=some ad ->ad.block < B0)/\eW w (.slice a n cap) l/\∀l',st=some l' ->l'=l
theorem oI {L p q:List UInt8} (hL:L=p++q) (a:Option Addr) (cap:Nat):∃a2 Lu,
  (∀wx,(Instr.slice 97 (.slice a L.length cap) (some (.int .i64 p.length)) none none).run prog wx= .ok (.slice a2 q.length Lu) wx)/\
  (∀wy,eW wy (.slice a L.length cap) L ->eW wy (.slice a2 q.length Lu) q)/\∀ad,a2=some ad ->∃ad0,a=some ad0/\ad.block=ad0.block:=by
 have hle:p.length <=L.length:=by rw [hL];simp
 have hd:L.drop p.length=q:=by rw [hL];exact df
 have hl:L.length - p.length=q.length:=by rw [hL];simp
 refine⟨if cap=p.length then a else a.map (·.add (p.length*1)),cap - p.length,fun wx=>?_,fun wy h=>?_,fun ad h=>?_⟩
 ·rw [pI a L.length cap p.length hle wx,sliceFrom,hl]
 ·have:=h.drop p.length hle
  rw [hd,sliceFrom,hl]at this;exact this
 ·split at h
  ·exact⟨ad,h,rfl⟩
  ·cases a with
   | none=>cases h
   | some a0=>
    injection h with h;subst h;refine⟨a0,rfl,?_⟩;unfold Addr.add;split <;>rfl
theorem eW.off {w w':World} {v:Value} {l:List UInt8} {R:Nat} {a:Option Addr} {n cap:Nat} {b:Bool} {t:TypeId} (h:eW w v l) (hb:eP w R #[.slice a n cap, .bool b] t) (hk:ee (fun i=>i=R) w w'):eW w' v l:=by
 obtain⟨a',LO,hv,h1,h2,h3⟩:=h;refine⟨a',LO,hv,h1,h2,fun i x hx=>?_⟩;obtain⟨g,off,ha,hc⟩:=h3 i x hx;refine⟨g,off,ha,?_⟩;have Lw:=aT w _ hc;have Nm:g≠R:=by
  rintro rfl;have Na:=hb.cell (off+i);rw [hc]at Na
  match off+i,Na with
  | 0,Na=>simp at Na
  | 1,Na=>simp at Na
  | n+2,Na=>simp at Na
 rw [bg (w:=w) (a:=⟨g,off+i,none⟩) (hk.block g Lw Nm)];exact hc
theorem Rd.below {B0:Nat} {w w':World} {R:Nat} {st:Option (List UInt8)} (h:Rd B0 w R st) (hk:Below w.heap.size w w'):Rd B0 w' R st:=by
 obtain⟨a,n,cap,hb,l,hB,hl,hs⟩:=h;exact⟨a,n,cap,hb.below hk hb.lt,l,hB,hl.below hk,hs⟩
theorem Rd.keeps {B0:Nat} {w w':World} {R:Nat} {st:Option (List UInt8)} {S:Nat ->Prop} (h:Rd B0 w R st) (hk:ee S w w') (hR:¬ S R) (hS:∀i,S i ->B0 <=i):Rd B0 w' R st:=by
 obtain⟨a,n,cap,hb,l,hB,⟨a',LO,hv,h1,h2,h3⟩,hs⟩:=h;injection hv with e1 e2 e3;subst e1 e2 e3;refine⟨a,_,cap,hb.keeps hk hR,l,hB,⟨a,cap,rfl,h1,h2,fun i x hx=>?_⟩,hs⟩;obtain⟨b,off,ha,hc⟩:=h3 i x hx;refine⟨b,off,ha,?_⟩;have Lw:=aT w _ hc;have LQ:b < B0:=hB (by rintro rfl;simp at hx) _ ha;rw [bg (w:=w) (a:=⟨b,off+i,none⟩) (hk.block b Lw (fun h=>by have:=hS b h;omega))];exact hc
theorem tg {w:World} {R:Nat} (i:Nat) (v:Value):ee (fun k=>k=R) w (w.setCell ⟨R,i,none⟩ v):=
 ⟨rfl,rfl,rfl,by simp,fun k _ hk=>cM w ⟨R,i,none⟩ v k hk⟩
def JI (B0 R:Nat) (st:Option (List UInt8)) (w:World) (e:Ending) (w':World):Prop:=
 e= .returned (.int .i64 (fS st).1)/\Rd B0 w' R (fS st).2/\ee (fun k=>k=R) w w'
def Jq (B0 R:Nat) (st:Option (List UInt8)) (w:World) (e:Ending) (w':World):Prop:=
 e= .returned (.int .i64 (nU st).1)/\Rd B0 w' R (nU st).2/\ee (fun k=>k=R) w w'
theorem kr (B0 R:Nat) (st:Option (List UInt8)) (w:World) (hr:Rd B0 w R st):Calls prog 118 #[.pointer (some ⟨R,0,none⟩)] w (JI B0 R st w):=by
 obtain⟨a,n,cap,LK,l,hB0,hl,LI⟩:=hr;obtain⟨a',LO,hv,h1,h2,_⟩:=id hl;injection hv with e1 e2 e3;subst e1 e2 e3;unfold maxLen at h2;have hRl:=LK.lt;have c0:w.cell? ⟨R,0,none⟩=some (.slice a l.length cap):=LK.cell 0;have c1:w.cell? ⟨R,1,none⟩=some (.bool st.isNone):=LK.cell 1;have ML:=V LK;have HL:=V hl;have HS:=V LI;have Pg:=V hB0;clear LK hl LI hB0;cases st with
 | none=>
  go_enter func118,ntmps118;go_wp2_with fail;refine(vt _ l 62 _ HL.out (by omega) (by omega)).mono ?_;rintro x w1 ⟨rfl,hb⟩;have LK:=ML.out.below hb hRl;have hl:=HL.out.below hb;have z0:=LK.free 0;have z1:=LK.free 1;have c0:w1.cell? ⟨R,0,none⟩=some (.slice a l.length cap):=LK.cell 0;have c1:w1.cell? ⟨R,1,none⟩=some (.bool true):=LK.cell 1;have NX:=V LK;have Rg:=V hl;clear LK hl;go_wp2_with fail;go_ret;have LC:=NX.out.set 1 (.bool true);refine⟨rfl,⟨a,l.length,cap,by have h:=LC;simp at h;exact h,l,Pg.out,Rg.out.off NX.out (tg _ _),fun l' h=>by cases h⟩,(ee.eh hb).trans (tg _ _) (fun i h=> .inl h)⟩
 | some l0=>
  obtain rfl:=HS.out l0 rfl;by_cases hu:(ix 62 l0).2.2=0
  ·obtain⟨u,r,hu1,RP,L6⟩:=rY hu
   obtain⟨a3,M7,Rh,hi3,hi4⟩:=oI RP a cap;have hle:=cX List.length RP;rw [ah]at hle;have hle2:(eY u).length <=l0.length:=by omega
   have HI3:=V hi3;have HR:=V (show fS (some l0)=(u,some r)by simp only [fS,L6,dc,Prod.mk.injEq,true_and,aX];rw [RP];exact df);have HI4:=V hi4;have Nn:=V RP;clear hi3 hi4 hu hle RP;go_enter func118,ntmps118;go_wp2_with fail;refine(vt _ l0 62 _ HL.out (by omega) (by omega)).mono ?_;rintro x w1 ⟨rfl,hb⟩;rw [L6];have LK:=ML.out.below hb hRl;have hl:=HL.out.below hb;have z0:=LK.free 0;have z1:=LK.free 1;have c0:w1.cell? ⟨R,0,none⟩=some (.slice a l0.length cap):=LK.cell 0;have c1:w1.cell? ⟨R,1,none⟩=some (.bool false):=LK.cell 1;have NX:=V LK;have Rg:=V hl;clear LK hl L6;go_wp2_with fail;go_ret;have LC:=(NX.out.set 1 (.bool false)).set 0 (.slice a3 r.length M7);have Np:ee (fun k=>k=R) w1 ((w1.setCell ⟨R,1,none⟩ (.bool false)).setCell ⟨R,0,none⟩ (.slice a3 r.length M7)):=(tg 1 _).trans (tg 0 _) (fun i h=> .inl h);refine⟨by rw [HR.out];rfl,?_,(ee.eh hb).trans Np (fun i h=> .inl h)⟩;rw [HR.out];exact⟨a3,r.length,M7,by simpa using LC,r,fun Nm ad h=>(by obtain⟨ad0,g1,g2⟩:=HI4.out ad h;rw [g2];exact Pg.out (by rw [Nn.out];intro g;exact Nm (List.append_eq_nil_iff.1 g).2) _ g1),(HI3.out _ Rg.out).off NX.out Np,fun l' h=>by injection h with h;exact h.symm⟩
  ·have HR:=V (show fS (some l0)=(0,none)by simp only [fS];rw [aC hu])
   obtain⟨x,k,err,hr⟩:∃x k err,ix 62 l0=(x,k,err):=⟨_,_,_,rfl⟩;have f1:(err !=0)=true:=fw (fun h=>hu (by rw [hr];exact h));clear hu;go_enter func118,ntmps118;go_wp2_with fail;refine(vt _ l0 62 _ HL.out (by omega) (by omega)).mono ?_;rintro x w1 ⟨rfl,hb⟩;rw [hr];have LK:=ML.out.below hb hRl;have hl:=HL.out.below hb;have z0:=LK.free 0;have z1:=LK.free 1;have c0:w1.cell? ⟨R,0,none⟩=some (.slice a l0.length cap):=LK.cell 0;have c1:w1.cell? ⟨R,1,none⟩=some (.bool false):=LK.cell 1;have NX:=V LK;have Rg:=V hl;clear LK hl hr;go_wp2_with fail;go_ret;have LC:=NX.out.set 1 (.bool true);refine⟨by rw [HR.out];rfl,?_,(ee.eh hb).trans (tg _ _) (fun i h=> .inl h)⟩;rw [HR.out];exact⟨a,l0.length,cap,by simpa using LC,l0,Pg.out,Rg.out.off NX.out (tg _ _),fun l' h=>by cases h⟩
theorem Ej (B0 R:Nat) (st:Option (List UInt8)) (w:World) (hr:Rd B0 w R st):Calls prog 234 #[.pointer (some ⟨R,0,none⟩)] w (Jq B0 R st w):=by
 obtain⟨a,n,cap,LK,l,hB0,hl,LI⟩:=hr;obtain⟨a',LO,hv,h1,h2,_⟩:=id hl;injection hv with e1 e2 e3;subst e1 e2 e3;unfold maxLen at h2;have hRl:=LK.lt;have c0:w.cell? ⟨R,0,none⟩=some (.slice a l.length cap):=LK.cell 0;have c1:w.cell? ⟨R,1,none⟩=some (.bool st.isNone):=LK.cell 1;have ML:=V LK;have HL:=V hl;have HS:=V LI;have Pg:=V hB0;clear LK hl LI hB0;cases st with
 | none=>
  go_enter func234,ntmps234;go_wp2_with fail;refine(CP _ l 64 _ HL.out (by omega) (by omega)).mono ?_;rintro x w1 ⟨rfl,hb⟩;have LK:=ML.out.below hb hRl;have hl:=HL.out.below hb;have z0:=LK.free 0;have z1:=LK.free 1;have c0:w1.cell? ⟨R,0,none⟩=some (.slice a l.length cap):=LK.cell 0;have c1:w1.cell? ⟨R,1,none⟩=some (.bool true):=LK.cell 1;have NX:=V LK;have Rg:=V hl;clear LK hl;go_wp2_with fail;go_ret;have LC:=NX.out.set 1 (.bool true);refine⟨rfl,⟨a,l.length,cap,by have h:=LC;simp at h;exact h,l,Pg.out,Rg.out.off NX.out (tg _ _),fun l' h=>by cases h⟩,(ee.eh hb).trans (tg _ _) (fun i h=> .inl h)⟩
 | some l0=>
  obtain rfl:=HS.out l0 rfl;by_cases hu:(jF 64 l0).2.2=0
  ·obtain⟨u,r,hu1,RP,L6⟩:=wM hu
   obtain⟨a3,M7,Rh,hi3,hi4⟩:=oI RP a cap;have hle:=cX List.length RP;rw [ah]at hle;have hle2:(iy u).length <=l0.length:=by omega
   have HI3:=V hi3;have HR:=V (show nU (some l0)=(u,some r)by simp only [nU,L6,dc,Prod.mk.injEq,true_and,aX];rw [RP];exact df);have HI4:=V hi4;have Nn:=V RP;clear hi3 hi4 hu hle RP;go_enter func234,ntmps234;go_wp2_with fail;refine(CP _ l0 64 _ HL.out (by omega) (by omega)).mono ?_;rintro x w1 ⟨rfl,hb⟩;rw [L6];have LK:=ML.out.below hb hRl;have hl:=HL.out.below hb;have z0:=LK.free 0;have z1:=LK.free 1;have c0:w1.cell? ⟨R,0,none⟩=some (.slice a l0.length cap):=LK.cell 0;have c1:w1.cell? ⟨R,1,none⟩=some (.bool false):=LK.cell 1;have NX:=V LK;have Rg:=V hl;clear LK hl L6;go_wp2_with fail;go_ret;have LC:=(NX.out.set 1 (.bool false)).set 0 (.slice a3 r.length M7);have Np:ee (fun k=>k=R) w1 ((w1.setCell ⟨R,1,none⟩ (.bool false)).setCell ⟨R,0,none⟩ (.slice a3 r.length M7)):=(tg 1 _).trans (tg 0 _) (fun i h=> .inl h);refine⟨by rw [HR.out];rfl,?_,(ee.eh hb).trans Np (fun i h=> .inl h)⟩;rw [HR.out];exact⟨a3,r.length,M7,by simpa using LC,r,fun Nm ad h=>(by obtain⟨ad0,g1,g2⟩:=HI4.out ad h;rw [g2];exact Pg.out (by rw [Nn.out];intro g;exact Nm (List.append_eq_nil_iff.1 g).2) _ g1),(HI3.out _ Rg.out).off NX.out Np,fun l' h=>by injection h with h;exact h.symm⟩
  ·have HR:=V (show nU (some l0)=(0,none)by simp only [nU];rw [aC hu])
   obtain⟨x,k,err,hr⟩:∃x k err,jF 64 l0=(x,k,err):=⟨_,_,_,rfl⟩;have f1:(err !=0)=true:=fw (fun h=>hu (by rw [hr];exact h));clear hu;go_enter func234,ntmps234;go_wp2_with fail;refine(CP _ l0 64 _ HL.out (by omega) (by omega)).mono ?_;rintro x w1 ⟨rfl,hb⟩;rw [hr];have LK:=ML.out.below hb hRl;have hl:=HL.out.below hb;have z0:=LK.free 0;have z1:=LK.free 1;have c0:w1.cell? ⟨R,0,none⟩=some (.slice a l0.length cap):=LK.cell 0;have c1:w1.cell? ⟨R,1,none⟩=some (.bool false):=LK.cell 1;have NX:=V LK;have Rg:=V hl;clear LK hl hr;go_wp2_with fail;go_ret;have LC:=NX.out.set 1 (.bool true);refine⟨by rw [HR.out];rfl,?_,(ee.eh hb).trans (tg _ _) (fun i h=> .inl h)⟩;rw [HR.out];exact⟨a,l0.length,cap,by simpa using LC,l0,Pg.out,Rg.out.off NX.out (tg _ _),fun l' h=>by cases h⟩
def qt:Nat ->Option (List UInt8) ->List fm × Option (List UInt8)
 | 0,st=>([],st)
 | _+1,none=>([],none)
 | n+1,some l=>(⟨(fS (some l)).1,(nU (fS (some l)).2).1⟩::(qt n (nU (fS (some l)).2).2).1,(qt n (nU (fS (some l)).2).2).2)
def jo (st:Option (List UInt8)):List fm × Option (List UInt8):=qt (fS st).1 (fS st).2
theorem Bz (n:Nat):qt n none=([],none):=by cases n <;>rfl
theorem xG:∀(l:List fm) (r:List UInt8),(∀v∈l,v.may/\v.ok) ->qt l.length (some ((l.map rK).flatten++r))=(l,some r)
 | [],r,_=>rfl
 | v::l,r,h=>by
  obtain⟨hm,hk⟩:=h v (by simp);have h0:0 <=v.kind/\v.kind <=2:=by rcases hm with g | g <;>omega
  have e1:((v::l).map rK).flatten++r=eY v.kind.toNat++(iy v.n++((l.map rK).flatten++r)):=by simp [rK]
  have e2:((v.kind.toNat:Nat):Int)=v.kind:=by omega
  rw [e1,aF,qt,kB _ _ (by omega)];simp only [Fw v.n _ hk.2.1 hk.2.2,xG l r (fun x hx=>h x (by simp [hx])),e2]
theorem xA (l:List fm) (r:List UInt8) (h:∀v∈l,v.may/\v.ok) (hl:l.length <=1000000):jo (some (jU l++r))=(l,some r):=by
 rw [jo,jU,aP,kB _ _ (by omega)];exact xG l r h
def IF (B0 Rb:Nat) (st:Option (List UInt8)) (w:World) (e:Ending) (w':World):Prop:=
 ∃v,e= .returned v/\ea 42 2 gw w' w.heap.size v (jo st).1/\(∀x∈(jo st).1,x.ok)/\(jo st).1.length+ou (jo st).2 <=ou st/\Rd B0 w' Rb (jo st).2/\ee (fun k=>k=Rb) w w'
def KD (B0 Rb:Nat) (Ig:Option (List UInt8)) (w w':World) (v:Value) (acc:List fm) (n:Nat) (st:Option (List UInt8)):Prop:=
 jo Ig=(acc++(qt n st).1,(qt n st).2)/\ea 42 2 gw w' w.heap.size v acc/\(∀x∈acc,x.ok)/\acc.length+ou st <=ou Ig/\Rd B0 w' Rb st/\ee (fun k=>k=Rb) w w'/\n < 4611686018427387904
theorem lC:(prog.info? 42).map (fun i=>(i.zero,i.size,i.bytes))=some (some (.agg #[.int .i64 0, .int .i64 0]),2,16):=by kernel_rfl
theorem xi (B0 Rb:Nat) (st:Option (List UInt8)) (w:World) (hr:Rd B0 w Rb st) (hl:ou st <=500000) (hB0:B0 <=w.heap.size):Calls prog 117 #[.pointer (some ⟨Rb,0,none⟩)] w (IF B0 Rb st w):=by
 have hR:Rb < w.heap.size:=by obtain⟨_,_,_,hb,_,_⟩:=hr;exact hb.lt
 go_enter func117,ntmps117;go_wp2_with fail;refine(kr B0 Rb st w hr).mono ?_;rintro x w1 ⟨rfl,P3,MA⟩;go_wp2_with fail;refine eJ (fun a' w'=>∃(v:Value) (acc:List fm) (n:Nat) (s:Option (List UInt8)),a'=fr (.pointer (some ⟨Rb,0,none⟩)::gs a' 1 2 (v:: .int .i64 n::gs a' 5 22 []))/\KD B0 Rb st w w' v acc n s) (fun a' _=>(intOf (a'.tmps.getD 4 undef)).toNat) ?_ ?_
 ·exact⟨_,[],(fS st).1,(fS st).2,rfl,by simp [jo],ea.nil _ _,by simp,by have:=nt st;simpa using this,P3,MA,lZ st⟩
 ·clear MA P3
  rintro R a' w1 ⟨v,acc,n,s,Lp,hJ⟩ HR;dsimp only [fr,gs]at Lp;generalize slot a'=f at Lp;subst Lp;obtain⟨hv,ho,Ly,hlen,Mo,hk,hn⟩:=hJ;have L4:=V Mo;obtain⟨ar,nr,P4,LK,_⟩:=Mo;have c1:w1.cell? ⟨Rb,1,none⟩=some (.bool s.isNone):=LK.cell 1;have HV:=V hv;have ME:=V Ly;have Mr:=hk.size;clear hv Ly LK;rcases aY n with MZ | MZ
  ·subst MZ
   go_wp2_with fail;go_ret;have h1:=HV.out;rw [qt,bO]at h1;refine⟨v,rfl,?_,?_,?_,?_,hk⟩
   ·rw [h1];exact ho
   ·rw [h1];exact ME.out
   ·rw [h1];exact hlen
   ·rw [h1];exact L4.out
  have f0:decide ((0:Int) < (n:Int))=true:=aA (by omega);cases s with
  | none=>
   have c1:w1.cell? ⟨Rb,1,none⟩=some (.bool true):=c1;go_wp2_with fail;go_ret;have h1:=HV.out;rw [Bz,bO]at h1;refine⟨v,rfl,?_,?_,?_,?_,hk⟩
   ·rw [h1];exact ho
   ·rw [h1];exact ME.out
   ·rw [h1];exact hlen
   ·rw [h1];exact L4.out
  | some l=>
   have c1:w1.cell? ⟨Rb,1,none⟩=some (.bool false):=c1;have Mp:∀i,eH v i ->¬ i=Rb:=fun i hi=>by have:=(eE ho hi).1;omega
   have MU:=tz l;have LB:=Hn (fS (some l)).2;have Pf:=lZ (some l);obtain⟨PE,NY⟩:=It (fS (some l)).2;have NN:acc.length <=500000:=by omega
   have HS:=V (show acc.length+1+ou (nU (fS (some l)).2).2 <=ou st by omega);have QX:=V Mp;clear MU LB hlen Mp;go_wp2_with fail;refine(kr B0 Rb (some l) w1 L4.out).mono ?_;rintro x w2 ⟨rfl,OA,Lv⟩;have MG:=V OA;clear L4 OA c1;go_wp2_with fail;refine(Ej B0 Rb _ w2 MG.out).mono ?_;rintro x w3 ⟨rfl,Rh,L5⟩;have Rf:ee (fun k=>k=Rb) w1 w3:=Lv.trans L5 (fun i h=> .inl h);have MB:ea 42 2 gw w3 w.heap.size v acc:=ho.keeps Rf QX.out;have OV:=Rf.size;obtain⟨n',rfl⟩:∃n',n=n'+1:=⟨n - 1,by omega⟩;have ND:=V Rh;clear MG Rh Lv L5;generalize Nq:(fS (some l)).1=x0 at Pf;generalize hy0:(nU (fS (some l)).2).1=y0 at PE NY;have HX:=V Nq;have HY:=V hy0;clear Nq hy0;go_wp2_with (first | (at_builtin;refine Stop.out ?_));change wpList _ _ _ _ _ _;refine fb w3 rfl _ _ 30 rfl _ 16 (by kernel_rfl) lC rfl (by decide) (by decide) w.heap.size v acc rfl MB ⟨x0,y0⟩ _ rfl rfl (mi _) rfl (by omega) (by omega) ?_;intro v4 w4 Nb Pb Nr;have hRd4:Rd B0 w4 Rb (nU (fS (some l)).2).2:=ND.out.keeps Pb (fun h=>QX.out _ h rfl) (fun i hi=>by have:=(eE MB hi).1;omega);have hk14:ee (fun k=>k=Rb) w w4:=(hk.trans Rf (fun i h=> .inl h)).trans Pb (fun i h=> .inr (eE MB h).1);clear Pb Nr Rf hk ho MB;go_wp2_with fail;refine HR.out _ _ ⟨v4,acc++[⟨x0,y0⟩],n',(nU (fS (some l)).2).2,rfl,?_,Nb,?_,?_,hRd4,hk14,by omega⟩ ?_
   ·rw [HV.out,qt,HX.out,HY.out]
    simp
   ·intro z hz
    rcases aZ.1 hz with h | h
    ·exact ME.out z h
    ·obtain rfl:=aQ.1 h
     exact⟨⟨by show(-9223372036854775808:Int) <=(x0:Int);omega,by show(x0:Int) <=9223372036854775807;omega⟩,PE,NY⟩
   ·rw [ah]
    exact HS.out
   ·simp [intOf]
structure jD where
 pos:Int
 eR:Int
deriving DecidableEq
def kq (l:jD):List Value:=[.int .i64 l.pos, .int .i64 l.eR]
theorem jS (l:jD):(kq l).length=2:=rfl
theorem vD (l:jD):∀u∈kq l,u.oneCell'=true:=by
 intro u hu;simp only [kq,bB,bN,cY]at hu;rcases hu with rfl | rfl <;>rfl
structure fc where
 fn:Int
 pc:Int
 locals:List fm
 base:Int
 labels:List jD
deriving DecidableEq
def mg (x:fc × Value × Value):List Value:=[.int .i64 x.1.fn, .int .i64 x.1.pc,x.2.1, .int .i64 x.1.base,x.2.2]
theorem iH (x:fc × Value × Value):(mg x).length=5:=rfl
structure gV where
 ej:List fm
 ey:List fc
 asks:Int
deriving DecidableEq
def iP (n:Int):Prop:= -9223372036854775808 <=n/\n <=9223372036854775807
def jD.ok (l:jD):Prop:=iP l.pos/\iP l.eR
def fc.ok (f:fc):Prop:=iP f.fn/\iP f.pc/\iP f.base/\(∀v∈f.locals,v.ok)/\∀l∈f.labels,l.ok
def gV.ok (s:gV):Prop:=iP s.asks/\(∀v∈s.ej,v.ok)/\∀f∈s.ey,f.ok
def gr (w:World) (v:Value) (l:List fc):Prop:=
 ∃us:List (Value × Value),us.length=l.length/\ew 5 mg w v (l.zip us)/\
  (∀(i:Nat) (f:fc) (u:Value × Value),l[i]?=some f ->us[i]?=some u ->ew 2 gw w u.1 f.locals/\ew 2 kq w u.2 f.labels)/\∀f∈l,f.ok
theorem gr.below {w w':World} {v:Value} {l:List fc} (h:gr w v l) (hb:Below w.heap.size w w'):gr w' v l:=by
 obtain⟨us,h1,h2,h3,h4⟩:=h;exact⟨us,h1,h2.below hb,fun i c u hc hu=>⟨(h3 i c u hc hu).1.below hb,(h3 i c u hc hu).2.below hb⟩,h4⟩
theorem gr.nil (w:World):gr w (.slice none 0 0) []:=⟨[],rfl,ew.nil w,by simp,by simp⟩
theorem gr.slice {w:World} {v:Value} {l:List fc} (h:gr w v l):∃a cap,v= .slice a l.length cap/\l.length <=cap/\cap <=9223372036854775807:=by
 obtain⟨us,h1,⟨a,cap,hv,h2,h3,_⟩,_⟩:=h;have:(l.zip us).length=l.length:=by rw [bJ,h1,cd]
 rw [this]at hv h2;exact⟨a,cap,hv,h2,h3⟩
theorem gr.get {w:World} {a:Option Addr} {n cap:Nat} {l:List fc} (h:gr w (.slice a n cap) l) {k:Nat} {f:fc} (hf:l[k]?=some f):∃b off u x,a=some ⟨b,off,none⟩/\b < w.heap.size/\
  (w.cell? ⟨b,off+k*5,none⟩=some (.int .i64 f.fn)/\w.cell? ⟨b,off+k*5+1,none⟩=some (.int .i64 f.pc)/\w.cell? ⟨b,off+k*5+2,none⟩=some u/\w.cell? ⟨b,off+k*5+3,none⟩=some (.int .i64 f.base)/\
   w.cell? ⟨b,off+k*5+4,none⟩=some x)/\ew 2 gw w u f.locals/\ew 2 kq w x f.labels/\f.ok:=by
 obtain⟨us,h1,⟨a',LO,hv,_,_,h2⟩,h3,h4⟩:=h;injection hv with e1 e2 e3;subst e1;have hk:k < us.length:=by rw [h1];exact(aM.1 hf).1
 have hu:=aw hk;have hz:(l.zip us)[k]?=some (f,us[k]):=(cJ (z:=(f,us[k]))).2 ⟨hf,hu⟩;obtain⟨b,off,ha,Lw,MF⟩:=h2 k _ hz;obtain⟨g1,g2⟩:=h3 k f _ hf hu;exact⟨b,off,us[k].1,us[k].2,ha,Lw,⟨MF 0 _ rfl,MF 1 _ rfl,MF 2 _ rfl,MF 3 _ rfl,MF 4 _ rfl⟩,g1,g2,h4 f (aO hf)⟩
def jP (w:World) (uv uf:Value) (s:gV):Prop:=ew 2 gw w uv s.ej/\gr w uf s.ey/\s.ok
theorem jP.below {w w':World} {uv uf:Value} {s:gV} (h:jP w uv uf s) (hb:Below w.heap.size w w'):jP w' uv uf s:=⟨h.1.below hb,h.2.1.below hb,h.2.2⟩
def pD (n:Int):Bool:=decide (n < 0) || decide (10000 < n)
theorem ld {n:Int}:pD n=false↔0 <=n/\n <=10000:=by
 simp only [pD,dM,decide_eq_false_iff_not];omega
theorem xw {n:Int}:pD n=true↔¬ (0 <=n/\n <=10000):=by
 rw [<- ld];simp
def jD.may (l:jD):Prop:=(0 <=l.pos/\l.pos <=10000)/\(0 <=l.eR/\l.eR <=10000)
instance (l:jD):Decidable l.may:=by unfold jD.may;infer_instance
def fc.may (f:fc):Prop:=
 (∀l∈f.labels,l.may)/\f.labels.length <=40/\f.locals.length <=32/\(∀v∈f.locals,v.may)/\(0 <=f.fn/\f.fn <=10000)/\(0 <=f.pc/\f.pc <=10000)/\(0 <=f.base/\f.base <=10000)
instance (f:fc):Decidable f.may:=by unfold fc.may;infer_instance
def gV.may (s:gV):Prop:=s.ej.length <=1000/\s.ey.length <=32/\ -1 <=s.asks/\s.asks <=10000/\(∀v∈s.ej,v.may)/\∀f∈s.ey,f.may
instance (s:gV):Decidable s.may:=by unfold gV.may;infer_instance
def pN (l:jD):List UInt8:=eY l.pos.toNat++eY l.eR.toNat
def Cp (l:List jD):List UInt8:=eY l.length++(l.map pN).flatten
def oX (f:fc):List UInt8:=jU f.locals++eY f.fn.toNat++eY f.pc.toNat++eY f.base.toNat++Cp f.labels
def ir (l:List fc):List UInt8:=(l.map oX).flatten
def jd (s:gV):List UInt8:=jU s.ej++eY (s.asks+1).toNat++eY s.ey.length++ir s.ey
theorem uR:∀l:List jD,((l.map pN).flatten).length <=20*l.length
 | []=>by simp
 | e::l=>by
  have h1:=(eO e.pos.toNat).2;have h2:=(eO e.eR.toNat).2;have h3:=uR l;simp only [bG,bT,ah,aF,pN]at*;omega
theorem B8 {f:fc} (hm:f.may) (ho:f.ok):(oX f).length <=1600:=by
 have h0:=(eO f.fn.toNat).2;have h1:=(eO f.pc.toNat).2;have h2:=(eO f.base.toNat).2;have h3:=(eO f.locals.length).2;have h4:=n5 f.locals ho.2.2.2.1;have h5:=(eO f.labels.length).2;have h6:=uR f.labels;have h7:=hm.2.1;have h8:=hm.2.2.1;simp only [oX,jU,Cp,ah];omega
theorem pw:∀l:List fc,(∀f∈l,f.may/\f.ok) ->(ir l).length <=1600*l.length
 | [],_=>by simp [ir]
 | f::l,h=>by
  have h1:=B8 (h f (by simp)).1 (h f (by simp)).2;have h2:=pw l (fun x hx=>h x (by simp [hx]));simp only [ir,bG,bT,ah,aF]at*;omega
theorem Ah (a b:List fc):ir (a++b)=ir a++ir b:=by simp [ir]
def n4:Nat ->Option (List UInt8) ->List jD × Option (List UInt8)
 | 0,st=>([],st)
 | _+1,none=>([],none)
 | n+1,some l=>(⟨(fS (some l)).1,(fS (fS (some l)).2).1⟩::(n4 n (fS (fS (some l)).2).2).1,(n4 n (fS (fS (some l)).2).2).2)
theorem Bk (n:Nat):n4 n none=([],none):=by cases n <;>rfl
def oN (st:Option (List UInt8)):fc × Option (List UInt8):=
 (⟨(fS (jo st).2).1,(fS (fS (jo st).2).2).1,(jo st).1,(fS (fS (fS (jo st).2).2).2).1,
  (n4 (fS (fS (fS (fS (jo st).2).2).2).2).1 (fS (fS (fS (fS (jo st).2).2).2).2).2).1⟩,
  (n4 (fS (fS (fS (fS (jo st).2).2).2).2).1 (fS (fS (fS (fS (jo st).2).2).2).2).2).2)
def ki:Nat ->Option (List UInt8) ->List fc × Option (List UInt8)
 | 0,st=>([],st)
 | _+1,none=>([],none)
 | n+1,some l=>((oN (some l)).1::(ki n (oN (some l)).2).1,(ki n (oN (some l)).2).2)
theorem yw (n:Nat):ki n none=([],none):=by cases n <;>rfl
def qS (st:Option (List UInt8)):gV × Option (List UInt8):=
 (⟨(jo st).1,(ki (fS (fS (jo st).2).2).1 (fS (fS (jo st).2).2).2).1,(fS (jo st).2).1 - 1⟩,(ki (fS (fS (jo st).2).2).1 (fS (fS (jo st).2).2).2).2)
theorem wI:∀(l:List jD) (r:List UInt8),(∀e∈l,e.may) ->n4 l.length (some ((l.map pN).flatten++r))=(l,some r)
 | [],r,_=>rfl
 | e::l,r,h=>by
  obtain⟨⟨h0,h1⟩,h2,h3⟩:=h e (by simp);have e1:((e::l).map pN).flatten++r=eY e.pos.toNat++(eY e.eR.toNat++((l.map pN).flatten++r)):=by simp [pN]
  have g1:((e.pos.toNat:Nat):Int)=e.pos:=by omega
  have g2:((e.eR.toNat:Nat):Int)=e.eR:=by omega
  rw [e1,aF,n4,kB _ _ (by omega)];simp only [kB e.eR.toNat _ (by omega),wI l r (fun x hx=>h x (by simp [hx])),g1,g2]
theorem BO (f:fc) (r:List UInt8) (hm:f.may) (ho:f.ok):oN (some (oX f++r))=(f,some r):=by
 obtain⟨m1,m2,m3,m4,⟨m5,m6⟩,⟨m7,m8⟩,m9,m10⟩:=hm;have e1:oX f++r=jU f.locals++(eY f.fn.toNat++(eY f.pc.toNat++(eY f.base.toNat++(eY f.labels.length++((f.labels.map pN).flatten++r))))):=by simp [oX,Cp]
 have g1:((f.fn.toNat:Nat):Int)=f.fn:=by omega
 have g2:((f.pc.toNat:Nat):Int)=f.pc:=by omega
 have g3:((f.base.toNat:Nat):Int)=f.base:=by omega
 have h0:∀r,jo (some (jU f.locals++r))=(f.locals,some r):=fun r=>xA _ r (fun v hv=>⟨m4 v hv,ho.2.2.2.1 v hv⟩) (by omega);have h1:∀r,fS (some (eY f.fn.toNat++r))=(f.fn.toNat,some r):=fun r=>kB _ r (by omega);have h2:∀r,fS (some (eY f.pc.toNat++r))=(f.pc.toNat,some r):=fun r=>kB _ r (by omega);have h3:∀r,fS (some (eY f.base.toNat++r))=(f.base.toNat,some r):=fun r=>kB _ r (by omega);have h4:∀r,fS (some (eY f.labels.length++r))=(f.labels.length,some r):=fun r=>kB _ r (by omega);have h5:n4 f.labels.length (some ((f.labels.map pN).flatten++r))=(f.labels,some r):=wI _ r m1;rw [e1,oN];simp only [h0,h1,h2,h3,h4,h5,g1,g2,g3]
theorem s8:∀(l:List fc) (r:List UInt8),(∀f∈l,f.may/\f.ok) ->ki l.length (some (ir l++r))=(l,some r)
 | [],r,_=>rfl
 | f::l,r,h=>by
  obtain⟨hm,hk⟩:=h f (by simp);have e1:ir (f::l)++r=oX f++(ir l++r):=by simp [ir]
  rw [e1,aF,ki,BO f _ hm hk];simp only [s8 l r (fun x hx=>h x (by simp [hx]))]
theorem nd (s:gV) (hm:s.may) (ho:s.ok):qS (some (jd s))=(s,some []):=by
 obtain⟨m1,m2,m3,m4,m5,m6⟩:=hm;have e1:jd s=jU s.ej++(eY (s.asks+1).toNat++(eY s.ey.length++(ir s.ey++[]))):=by simp [jd]
 have g1:(((s.asks+1).toNat:Nat):Int) - 1=s.asks:=by omega
 have h0:∀r,jo (some (jU s.ej++r))=(s.ej,some r):=fun r=>xA _ r (fun v hv=>⟨m5 v hv,ho.2.1 v hv⟩) (by omega);have h1:∀r,fS (some (eY (s.asks+1).toNat++r))=((s.asks+1).toNat,some r):=fun r=>kB _ r (by omega);have h2:∀r,fS (some (eY s.ey.length++r))=(s.ey.length,some r):=fun r=>kB _ r (by omega);have h3:ki s.ey.length (some (ir s.ey++[]))=(s.ey,some []):=s8 _ _ (fun f hf=>⟨m6 f hf,ho.2.2 f hf⟩);rw [e1,qS];simp only [h0,h1,h2,h3,g1]
theorem AN {a b:gV} (ha:a.may) (hao:a.ok) (hb:b.may) (Mg:b.ok) (h:jd a=jd b):a=b:=by
 have h1:=nd a ha hao;have h2:=nd b hb Mg;rw [h,h2]at h1;injection h1 with h1 _;exact h1.symm
theorem xe (s:gV):jd s≠[]:=by
 intro h;simp only [jd,jU,List.append_eq_nil_iff]at h;have:=(eO s.ej.length).1;rw [h.1.1.1.1]at this;simp at this
theorem B7 {s:gV} (h:s.may) (ho:s.ok):1 <=(jd s).length/\(jd s).length <=100000:=by
 have g1:=eO s.ej.length;have g2:=n5 s.ej ho.2.1;have g3:=(eO (s.asks+1).toNat).2;have g4:=(eO s.ey.length).2;have g5:=pw s.ey (fun f hf=>⟨h.2.2.2.2.2 f hf,ho.2.2 f hf⟩);have g6:=h.1;have g7:=h.2.1;simp only [jd,jU,ah];omega
theorem wq (v:fm) (w:World):Calls prog 238 #[.agg #[.int .i64 v.kind, .int .i64 v.n]] w (eF (!decide v.may) w):=by
 go_enter func238,ntmps238;go_wp2_with fail;refine(nC v _).mono ?_;rintro e w2 ⟨rfl,hb⟩;replace hb:=((an w.heap.size w).alloc (ag _) _).trans (hb.mono (by simp));go_wp2_with fail;go_ret;exact⟨rfl,hb⟩
def vg (v:fm):Bool:= !decide v.may
theorem Bp (v:Value) (l:List fm) (w:World) (hl:ew 2 gw w v l):
  Calls prog 283 #[v, .func (.func 238) #[] #[]] w (kj vg l w):=by
 have HI:=V hl;obtain⟨a,cap,rfl,h1,h2,_⟩:=hl;unfold maxLen at h2;go_enter func283,ntmps283;go_wp2_with fail;refine eJ (fun a' w'=>∃(k:Nat),a'=fr (.slice a l.length cap:: .func (.func 238) #[] #[]::gs a' 2 5 (.int .i64 l.length:: .int .i64 k::gs a' 9 10 []))/\qc vg l w w' k) (fun a' _=>(l.length - (intOf (a'.tmps.getD 8 undef)).toNat)) ?_ ?_
 ·exact⟨0,rfl,by omega,fun i hi=>by omega,an _ _⟩
 ·skip
  rintro R a' w1 ⟨k,Lp,hJ⟩ HR;dsimp only [fr,gs]at Lp;generalize slot a'=f at Lp;subst Lp;obtain⟨hk,hm,hb⟩:=hJ;have Mt:=V hm;clear hm;by_cases Mm:k < l.length
  ·obtain⟨e,he⟩:∃e,l[k]?=some e:=⟨_,aw Mm⟩
   obtain⟨a',LO,hv,_,_,Ln⟩:=HI.out.below (hb.mono (ag _));injection hv with e1 e2 e3;subst e1 e3;obtain⟨b,off,rfl,Lw,hc⟩:=Ln k e he;have c0:=hc 0 _ rfl;have c1:=hc 1 _ rfl;rw [aK]at c0;have HE:=V he;clear Ln e2 he hc;have Lz:=wq e w1;cases hq:vg e
   all_goals
    rw [show(!decide e.may)=vg e from rfl,hq]at Lz;have HQ:=V hq;clear hq;go_wp2_with fail;refine Lz.mono ?_;rintro x w2 ⟨rfl,Lr⟩;replace hb:=ei hb Lr;clear Lz c0 c1 Lr;go_wp2_with fail
   ·refine HR.out _ _ ⟨k+1,rfl,by omega,?_,hb⟩ ?_
    ·intro i hi d hd
     rcases bD i k with h | h
     ·exact Mt.out i h d hd
     ·obtain rfl:i=k:=by omega
      rw [HE.out]at hd;injection hd with hd;rw [<- hd];exact HQ.out
    ·simp [intOf]
     omega
   ·go_ret
    exact⟨by rw [iA HE.out HQ.out Mt.out];rfl,hb⟩
  ·obtain rfl:k=l.length:=by omega
   go_wp2_with fail;go_ret;exact⟨by rw [hI Mt.out];rfl,hb⟩
theorem A3 (v:Value) (l:List fm) (w:World) (hl:ew 2 gw w v l):
  Calls prog 237 #[v, .func (.func 238) #[] #[]] w (eF (l.any vg) w):=by
 go_enter func237,ntmps237;go_wp2_with fail;refine(Bp v l _ hl).mono ?_;rintro x w2 ⟨rfl,hb⟩;go_wp2_with fail;go_ret;exact⟨by rw [<- iK];rfl,hb⟩
theorem vQ (n:Int) (w:World):Calls prog 241 #[.int .i64 n] w (eF (pD n) w):=by
 by_cases q0:n < 0
 ·have f0:decide (n < 0)=true:=aA q0
  have HB:=V (show pD n=true by rw [pD,f0];rfl);go_enter func241,ntmps241;go_wp2_with fail;go_ret;exact⟨by rw [HB.out];rfl,an _ _⟩
 have f0:decide (n < 0)=false:=aq q0;by_cases q1:10000 < n
 ·have f1:decide (10000 < n)=true:=aA q1
  have HB:=V (show pD n=true by rw [pD,f0,f1];rfl);go_enter func241,ntmps241;go_wp2_with fail;go_ret;exact⟨by rw [HB.out];rfl,an _ _⟩
 ·have f1:decide (10000 < n)=false:=aq q1
  have HB:=V (show pD n=false by rw [pD,f0,f1];rfl);go_enter func241,ntmps241;go_wp2_with fail;go_ret;exact⟨by rw [HB.out];rfl,an _ _⟩
def fp (n:Int):List Value:=[.int .i64 n]
theorem Bh (v:Value) (l:List Int) (w:World) (hl:ew 1 fp w v l):
  Calls prog 100 #[v, .func (.func 241) #[] #[]] w (kj pD l w):=by
 have HI:=V hl;have hl':=hl;obtain⟨a,cap,rfl,h1,h2,_⟩:=hl';unfold maxLen at h2;clear hl;go_enter func100,ntmps100;go_wp2_with fail;refine eJ (fun a' w'=>∃(k:Nat),a'=fr (.slice a l.length cap:: .func (.func 241) #[] #[]::gs a' 2 5 (.int .i64 l.length:: .int .i64 k::gs a' 9 10 []))/\qc pD l w w' k) (fun a' _=>(l.length - (intOf (a'.tmps.getD 8 undef)).toNat)) ?_ ?_
 ·exact⟨0,rfl,by omega,fun i hi=>by omega,an _ _⟩
 ·skip
  rintro R a' w1 ⟨k,Lp,hJ⟩ HR;dsimp only [fr,gs]at Lp;generalize slot a'=f at Lp;subst Lp;obtain⟨hk,hm,hb⟩:=hJ;have Mt:=V hm;clear hm;by_cases Mm:k < l.length;rotate_left
  ·obtain rfl:k=l.length:=by omega
   go_wp2_with fail;go_ret;exact⟨by rw [hI Mt.out];rfl,hb⟩
  obtain⟨e,he⟩:∃e,l[k]?=some e:=⟨_,aw Mm⟩;obtain⟨a',LO,hv,_,_,Ln⟩:=HI.out.below (hb.mono (ag _));injection hv with e1 e2 e3;subst e1 e3;obtain⟨b,off,rfl,Lw,hc⟩:=Ln k e he;have c0:=hc 0 _ rfl;rw [aK,bq]at c0;have HE:=V he;clear Ln e2 he hc;have Lz:=vQ e w1;cases hq:pD e
  all_goals
   rw [hq]at Lz;have HQ:=V hq;clear hq;go_wp2_with fail;refine Lz.mono ?_;rintro x w2 ⟨rfl,Lr⟩;replace hb:=ei hb Lr;clear Lz Lr;go_wp2_with fail
  ·refine HR.out _ _ ⟨k+1,rfl,by omega,?_,hb⟩ ?_
   ·intro i hi d hd
    rcases bD i k with h | h
    ·exact Mt.out i h d hd
    ·obtain rfl:i=k:=by omega
     rw [HE.out]at hd;injection hd with hd;rw [<- hd];exact HQ.out
   ·simp [intOf]
    omega
  ·go_ret
   exact⟨by rw [iA HE.out HQ.out Mt.out];rfl,hb⟩
theorem Ax (v:Value) (l:List Int) (w:World) (hl:ew 1 fp w v l):
  Calls prog 63 #[v, .func (.func 241) #[] #[]] w (eF (l.any pD) w):=by
 go_enter func63,ntmps63;go_wp2_with fail;refine(Bh v l _ hl).mono ?_;rintro x w2 ⟨rfl,hb⟩;go_wp2_with fail;go_ret;exact⟨by rw [<- iK];rfl,hb⟩
theorem wN (v:Value) (l:List Int) (w:World) (hl:ew 1 fp w v l):Calls prog 128 #[v] w (eF (!l.any pD) w):=by
 go_enter func128,ntmps128;go_wp2_with fail;refine(Ax v l _ hl).mono ?_;rintro x w2 ⟨rfl,hb⟩;go_wp2_with fail;go_ret;exact⟨rfl,hb⟩
theorem tU (v:Value) (l:List fm) (w:World) (hl:ew 2 gw w v l):Calls prog 123 #[v] w (eF (!l.any vg) w):=by
 go_enter func123,ntmps123;go_wp2_with fail;refine(A3 v l _ hl).mono ?_;rintro x w2 ⟨rfl,hb⟩;go_wp2_with fail;go_ret;exact⟨rfl,hb⟩
theorem pR (w:World) (x y:Int) (t:TypeId):ew 1 fp (w.alloc (.cells #[.int .i64 x, .int .i64 y] t)) (.slice (some ⟨w.heap.size,0,none⟩) 2 2) [x,y]:=by
 refine⟨_,2,rfl,ag _,by simp [maxLen],fun i z hz=>⟨w.heap.size,0,rfl,by simp,fun j v hv=>?_⟩⟩;rw [bQ]
 match j,hv with
 | 0,hv=>
  simp [fp]at hv;subst hv
  match i,hz with
  | 0,hz=>simp at hz;subst hz;rfl
  | 1,hz=>simp at hz;subst hz;rfl
  | i+2,hz=>simp at hz
 | j+1,hv=>simp [fp]at hv
theorem DM (w:World) (x y z:Int) (t:TypeId):ew 1 fp (w.alloc (.cells #[.int .i64 x, .int .i64 y, .int .i64 z] t)) (.slice (some ⟨w.heap.size,0,none⟩) 3 3) [x,y,z]:=by
 refine⟨_,3,rfl,ag _,by simp [maxLen],fun i q hq=>⟨w.heap.size,0,rfl,by simp,fun j v hv=>?_⟩⟩;rw [bQ]
 match j,hv with
 | 0,hv=>
  simp [fp]at hv;subst hv
  match i,hq with
  | 0,hq=>simp at hq;subst hq;rfl
  | 1,hq=>simp at hq;subst hq;rfl
  | 2,hq=>simp at hq;subst hq;rfl
  | i+3,hq=>simp at hq
 | j+1,hv=>simp [fp]at hv
def te (l:jD):Bool:= !decide l.may
theorem zU (l:jD) (w:World):Calls prog 127 #[.agg #[.int .i64 l.pos, .int .i64 l.eR]] w (eF (te l) w):=by
 have hd:([l.pos,l.eR].any pD)=te l:=by
  by_cases h:l.may
  ·rw [te,aA h]
   simp [ld.2 h.1,ld.2 h.2]
  ·rw [te,aq h]
   by_cases h1:0 <=l.pos/\l.pos <=10000
   ·have h2:¬ (0 <=l.eR/\l.eR <=10000):=fun g=>h ⟨h1,g⟩
    simp [xw.2 h2]
   ·simp [xw.2 h1]
 have HD:=V hd;clear hd;go_enter func127,ntmps127;go_wp2_with fail;have hl:=pR (w.alloc (.cells #[.int .i64 l.pos, .int .i64 l.eR] 46)) l.pos l.eR 3;rw [aE]at hl;refine(wN _ _ _ hl).mono ?_;rintro x w2 ⟨rfl,hb⟩;rw [HD.out];have LP:Below w.heap.size w w2:=(((an w.heap.size w).alloc (ag _) _).alloc (by simp) _).trans (hb.mono (by simp;omega));clear hl hb;go_wp2_with fail;go_ret;exact⟨by simp,LP⟩
theorem BF (v:Value) (l:List jD) (w:World) (hl:ew 2 kq w v l):
  Calls prog 240 #[v, .func (.func 127) #[] #[]] w (kj te l w):=by
 have HI:=V hl;have hl':=hl;obtain⟨a,cap,rfl,h1,h2,_⟩:=hl';unfold maxLen at h2;clear hl;go_enter func240,ntmps240;go_wp2_with fail;refine eJ (fun a' w'=>∃(k:Nat),a'=fr (.slice a l.length cap:: .func (.func 127) #[] #[]::gs a' 2 5 (.int .i64 l.length:: .int .i64 k::gs a' 9 10 []))/\qc te l w w' k) (fun a' _=>(l.length - (intOf (a'.tmps.getD 8 undef)).toNat)) ?_ ?_
 ·exact⟨0,rfl,by omega,fun i hi=>by omega,an _ _⟩
 ·skip
  rintro R a' w1 ⟨k,Lp,hJ⟩ HR;dsimp only [fr,gs]at Lp;generalize slot a'=f at Lp;subst Lp;obtain⟨hk,hm,hb⟩:=hJ;have Mt:=V hm;clear hm;by_cases Mm:k < l.length;rotate_left
  ·obtain rfl:k=l.length:=by omega
   go_wp2_with fail;go_ret;exact⟨by rw [hI Mt.out];rfl,hb⟩
  obtain⟨e,he⟩:∃e,l[k]?=some e:=⟨_,aw Mm⟩;obtain⟨a',LO,hv,_,_,Ln⟩:=HI.out.below (hb.mono (ag _));injection hv with e1 e2 e3;subst e1 e3;obtain⟨b,off,rfl,Lw,hc⟩:=Ln k e he;have c0:=hc 0 _ rfl;have c1:=hc 1 _ rfl;rw [aK]at c0;have HE:=V he;clear Ln e2 he hc;have Lz:=zU e w1;cases hq:te e
  all_goals
   rw [hq]at Lz;have HQ:=V hq;clear hq;go_wp2_with fail;refine Lz.mono ?_;rintro x w2 ⟨rfl,Lr⟩;replace hb:=ei hb Lr;clear Lz Lr;go_wp2_with fail
  ·refine HR.out _ _ ⟨k+1,rfl,by omega,?_,hb⟩ ?_
   ·intro i hi d hd
    rcases bD i k with h | h
    ·exact Mt.out i h d hd
    ·obtain rfl:i=k:=by omega
     rw [HE.out]at hd;injection hd with hd;rw [<- hd];exact HQ.out
   ·simp [intOf]
    omega
  ·go_ret
   exact⟨by rw [iA HE.out HQ.out Mt.out];rfl,hb⟩
theorem yX (v:Value) (l:List jD) (w:World) (hl:ew 2 kq w v l):
  Calls prog 126 #[v, .func (.func 127) #[] #[]] w (eF (l.any te) w):=by
 go_enter func126,ntmps126;go_wp2_with fail;refine(BF v l _ hl).mono ?_;rintro x w2 ⟨rfl,hb⟩;go_wp2_with fail;go_ret;exact⟨by rw [<- iK];rfl,hb⟩
theorem eP.sr {w:World} {X:Nat} {t:TypeId} {x0 x1 x2 x3 x4:Value} (h:eP w X #[x0,x1,x2,x3,x4] t):
  w.cell? ⟨X,0,none⟩=some x0/\w.cell? ⟨X,1,none⟩=some x1/\w.cell? ⟨X,2,none⟩=some x2/\w.cell? ⟨X,3,none⟩=some x3/\w.cell? ⟨X,4,none⟩=some x4:=⟨h.cell 0,h.cell 1,h.cell 2,h.cell 3,h.cell 4⟩
theorem eP.three {w:World} {X:Nat} {t:TypeId} {x0 x1 x2:Value} (h:eP w X #[x0,x1,x2] t):
  w.cell? ⟨X,0,none⟩=some x0/\w.cell? ⟨X,1,none⟩=some x1/\w.cell? ⟨X,2,none⟩=some x2:=⟨h.cell 0,h.cell 1,h.cell 2⟩
def nB (f:fc):Bool:= !decide f.may
theorem CL (l:List fm):l.any vg=false↔∀v∈l,v.may:=by
 rw [dI]
 constructor
 ·intro h v hv
  have:=h v hv;simpa [vg] using this
 ·intro h v hv
  simpa [vg] using h v hv
theorem Im (l:List jD):l.any te=false↔∀v∈l,v.may:=by
 rw [dI]
 constructor
 ·intro h v hv
  have:=h v hv;simpa [te] using this
 ·intro h v hv
  simpa [te] using h v hv
theorem IL (l:List fc):l.any nB=false↔∀v∈l,v.may:=by
 rw [dI]
 constructor
 ·intro h v hv
  have:=h v hv;simpa [nB] using this
 ·intro h v hv
  simpa [nB] using h v hv
theorem wz (f:fc) (u x:Value) (w:World) (hu:ew 2 gw w u f.locals) (hx:ew 2 kq w x f.labels):
  Calls prog 125 #[.agg #[.int .i64 f.fn, .int .i64 f.pc,u, .int .i64 f.base,x]] w (eF (nB f) w):=by
 have HU:=V hu;have HV:=V hx;obtain⟨au,Lx,rfl,_,hcu,_⟩:=hu;obtain⟨ax,MC,rfl,_,hcx,_⟩:=hx;unfold maxLen at hcu hcx;have hbad:∀b,(f.may ->b=false) ->(b=false ->f.may) ->nB f=b:=by
  intro b h1 h2;by_cases h:f.may
  ·rw [nB,aA h,h1 h];rfl
  ·cases b
   ·exact absurd (h2 rfl) h
   ·rw [nB,aq h];rfl
 have HBAD:=V (show ¬ f.may ->nB f=true from fun h=>by rw [nB,aq h];rfl);have HGOOD:=V (show f.may ->nB f=false from fun h=>by rw [nB,aA h];rfl);have HL:=V (Im f.labels);have HLV:=V (CL f.locals);clear hbad;go_enter func125,ntmps125;go_wp2_with fail;have MQ:=eP.new w #[.int .i64 f.fn, .int .i64 f.pc, .slice au f.locals.length Lx, .int .i64 f.base, .slice ax f.labels.length MC] 40;refine(yX _ f.labels _ (HV.out.below ((an _ _).alloc (ag _) _))).mono ?_;rintro y w1 ⟨rfl,LC⟩;replace MQ:=MQ.below LC (by simp);have hb:Below w.heap.size w w1:=((an w.heap.size w).alloc (ag _) _).trans (LC.mono (by simp));clear LC;obtain⟨x0,x1,x2,x3,x4⟩:=MQ.sr;cases q1:f.labels.any te with
 | true=>
  have Q1:=V q1;clear q1 MQ;have HX:=V (show nB f=true from HBAD.out (fun h=>by have:=HL.out.2 h.1;rw [Q1.out]at this;cases this));go_wp2_with fail;go_ret;exact⟨by rw [HX.out];rfl,hb⟩
 | false=>
  have Q1:=V (HL.out.1 q1);clear q1;by_cases q2:40 < f.labels.length
  ·have f2:decide (40 < (f.labels.length:Int))=true:=aA (by omega)
   clear MQ;have HX:=V (show nB f=true from HBAD.out (fun h=>by have:=h.2.1;omega));go_wp2_with fail;go_ret;exact⟨by rw [HX.out];rfl,hb⟩
  have f2:decide (40 < (f.labels.length:Int))=false:=aq (by omega);by_cases q3:32 < f.locals.length
  ·have f3:decide (32 < (f.locals.length:Int))=true:=aA (by omega)
   clear MQ;have HX:=V (show nB f=true from HBAD.out (fun h=>by have:=h.2.2.1;omega));go_wp2_with fail;go_ret;exact⟨by rw [HX.out];rfl,hb⟩
  have f3:decide (32 < (f.locals.length:Int))=false:=aq (by omega);go_wp2_with fail;refine(tU _ f.locals _ (HU.out.below (hb.mono (ag _)))).mono ?_;rintro y w2 ⟨rfl,Lr⟩;replace MQ:=MQ.below Lr MQ.lt;replace hb:=ei hb Lr;clear Lr x0 x1 x2 x3 x4;obtain⟨x0,x1,x2,x3,x4⟩:=MQ.sr;clear MQ;cases q4:f.locals.any vg with
  | true=>
   have Q4:=V q4;clear q4;have HX:=V (show nB f=true from HBAD.out (fun h=>by have:=HLV.out.2 h.2.2.2.1;rw [Q4.out]at this;cases this));go_wp2_with fail;go_ret;exact⟨by rw [HX.out];rfl,hb⟩
  | false=>
   have Q4:=V (HLV.out.1 q4);clear q4;go_wp2_with fail;have hl:=DM w2 f.fn f.pc f.base 3;refine(wN _ _ _ hl).mono ?_;rintro y w3 ⟨rfl,Mf⟩;replace hb:=ei hb (((an w2.heap.size w2).alloc (ag _) _).trans (Mf.mono (by simp)));clear Mf x0 x1 x2 x3 x4 hl;cases q5:[f.fn,f.pc,f.base].any pD with
   | true=>
    have Q5:=V q5;clear q5;have HX:=V (show nB f=true from HBAD.out (fun h=>by have g:=Q5.out;simp [ld.2 h.2.2.2.2.1,ld.2 h.2.2.2.2.2.1,ld.2 h.2.2.2.2.2.2]at g));go_wp2_with fail;go_ret;exact⟨by rw [HX.out];rfl,hb⟩
   | false=>
    have Q5:=V q5;clear q5;have HX:=V (show nB f=false from HGOOD.out (by have g:=Q5.out;simp at g;exact⟨Q1.out,by omega,by omega,Q4.out,ld.1 g.1,ld.1 g.2.1,ld.1 g.2.2⟩));go_wp2_with fail;go_ret;exact⟨by rw [HX.out];rfl,hb⟩
theorem yA (v:Value) (l:List fc) (w:World) (hl:gr w v l):
  Calls prog 239 #[v, .func (.func 125) #[] #[]] w (kj nB l w):=by
 have HI:=V hl;obtain⟨a,cap,rfl,h1,h2⟩:=hl.slice;clear hl;go_enter func239,ntmps239;go_wp2_with fail;refine eJ (fun a' w'=>∃(k:Nat),a'=fr (.slice a l.length cap:: .func (.func 125) #[] #[]::gs a' 2 5 (.int .i64 l.length:: .int .i64 k::gs a' 9 10 []))/\qc nB l w w' k) (fun a' _=>(l.length - (intOf (a'.tmps.getD 8 undef)).toNat)) ?_ ?_
 ·exact⟨0,rfl,by omega,fun i hi=>by omega,an _ _⟩
 ·skip
  rintro R a' w1 ⟨k,Lp,hJ⟩ HR;dsimp only [fr,gs]at Lp;generalize slot a'=f at Lp;subst Lp;obtain⟨hk,hm,hb⟩:=hJ;have Mt:=V hm;clear hm;by_cases Mm:k < l.length;rotate_left
  ·obtain rfl:k=l.length:=by omega
   go_wp2_with fail;go_ret;exact⟨by rw [hI Mt.out];rfl,hb⟩
  obtain⟨e,he⟩:∃e,l[k]?=some e:=⟨_,aw Mm⟩;obtain⟨b,off,u,x,rfl,Lw,⟨c0,c1,c2,c3,c4⟩,hu,hx,-⟩:=(HI.out.below (hb.mono (ag _))).get he;have Lz:=wz e u x w1 hu hx;obtain⟨au,Lx,rfl,-,-,-⟩:=hu;obtain⟨ax,MC,rfl,-,-,-⟩:=hx;have HE:=V he;clear he;cases hq:nB e
  all_goals
   rw [hq]at Lz;have HQ:=V hq;clear hq;go_wp2_with fail;refine Lz.mono ?_;rintro x w2 ⟨rfl,Lr⟩;replace hb:=ei hb Lr;clear Lz Lr c0 c1 c2 c3 c4;go_wp2_with fail
  ·refine HR.out _ _ ⟨k+1,rfl,by omega,?_,hb⟩ ?_
   ·intro i hi d hd
    rcases bD i k with h | h
    ·exact Mt.out i h d hd
    ·obtain rfl:i=k:=by omega
     rw [HE.out]at hd;injection hd with hd;rw [<- hd];exact HQ.out
   ·simp [intOf]
    omega
  ·go_ret
   exact⟨by rw [iA HE.out HQ.out Mt.out];rfl,hb⟩
theorem ze (v:Value) (l:List fc) (w:World) (hl:gr w v l):
  Calls prog 124 #[v, .func (.func 125) #[] #[]] w (eF (l.any nB) w):=by
 go_enter func124,ntmps124;go_wp2_with fail;refine(yA v l _ hl).mono ?_;rintro x w2 ⟨rfl,hb⟩;go_wp2_with fail;go_ret;exact⟨by rw [<- iK];rfl,hb⟩
theorem ow (uv uf:Value) (s:gV) (w:World) (hs:jP w uv uf s):
  Calls prog 80 #[.agg #[uv,uf, .int .i64 s.asks]] w (eF (decide s.may) w):=by
 have HS:=V hs;obtain⟨hv,hf,⟨⟨o1,o2⟩,-,-⟩⟩:=hs;obtain⟨av,LR,rfl,_,MR,_⟩:=hv;obtain⟨af,Nd,rfl,_,Qk⟩:=hf.slice;unfold maxLen at MR;have HL:=V (IL s.ey);have HLV:=V (CL s.ej);clear hf;have hb:Below w.heap.size w (w.alloc (.cells #[.slice av s.ej.length LR, .slice af s.ey.length Nd, .int .i64 s.asks] 37)):=(an _ _).alloc (ag _) _;go_enter func80,ntmps80;by_cases q1:1000 < s.ej.length
 ·have f1:decide (1000 < (s.ej.length:Int))=true:=aA (by omega)
  have HX:=V (show decide s.may=false from aq (fun h=>by have:=h.1;omega));go_wp2_with fail;go_ret;exact⟨by rw [HX.out];rfl,hb⟩
 have f1:decide (1000 < (s.ej.length:Int))=false:=aq (by omega);by_cases q2:32 < s.ey.length
 ·have f2:decide (32 < (s.ey.length:Int))=true:=aA (by omega)
  have HX:=V (show decide s.may=false from aq (fun h=>by have:=h.2.1;omega));go_wp2_with fail;go_ret;exact⟨by rw [HX.out];rfl,hb⟩
 have f2:decide (32 < (s.ey.length:Int))=false:=aq (by omega);by_cases q3:s.asks < -1
 ·have f3:decide (s.asks < -1)=true:=aA q3
  have HX:=V (show decide s.may=false from aq (fun h=>by have:=h.2.2.1;omega));go_wp2_with fail;go_ret;exact⟨by rw [HX.out];rfl,hb⟩
 have f3:decide (s.asks < -1)=false:=aq q3;by_cases q4:10000 < s.asks
 ·have f4:decide (10000 < s.asks)=true:=aA q4
  have HX:=V (show decide s.may=false from aq (fun h=>by have:=h.2.2.2.1;omega));go_wp2_with fail;go_ret;exact⟨by rw [HX.out];rfl,hb⟩
 have f4:decide (10000 < s.asks)=false:=aq q4;go_wp2_with fail;have MQ:=eP.new w #[.slice av s.ej.length LR, .slice af s.ey.length Nd, .int .i64 s.asks] 37;refine(tU _ s.ej _ (HS.out.1.below (hb.mono (ag _)))).mono ?_;rintro y w1 ⟨rfl,LC⟩;replace MQ:=MQ.below LC (by simp);have hb:=hb.trans (LC.mono hb.size);clear LC;obtain⟨x0,x1,x2⟩:=MQ.three;clear MQ;cases q5:s.ej.any vg with
 | true=>
  have Q5:=V q5;clear q5;have HX:=V (show decide s.may=false from aq (fun h=>by have:=HLV.out.2 h.2.2.2.2.1;rw [Q5.out]at this;cases this));go_wp2_with fail;go_ret;exact⟨by rw [HX.out];rfl,hb⟩
 | false=>
  have Q5:=V (HLV.out.1 q5);clear q5;go_wp2_with fail;refine(ze _ s.ey _ (HS.out.2.1.below (hb.mono (ag _)))).mono ?_;rintro y w2 ⟨rfl,Lr⟩;replace hb:=ei hb Lr;clear Lr x0 x1 x2;cases q6:s.ey.any nB with
  | true=>
   have Q6:=V q6;clear q6;have HX:=V (show decide s.may=false from aq (fun h=>by have:=HL.out.2 h.2.2.2.2.2;rw [Q6.out]at this;cases this));go_wp2_with fail;go_ret;exact⟨by rw [HX.out];rfl,hb⟩
  | false=>
   have Q6:=V (HL.out.1 q6);clear q6;have HX:=V (show decide s.may=true from aA ⟨by omega,by omega,by omega,by omega,Q5.out,Q6.out⟩);go_wp2_with fail;go_ret;exact⟨by rw [HX.out];rfl,hb⟩
end Go.Proofs.YthbjdhjppbcneaaGreatDoor
