import Derived.Test.YtjmeglibedbljaaGreatDoorRunNoneJ1
namespace Go.Proofs.YtjmeglibedbljaaGreatDoor
set_option maxRecDepth 100000
set_option maxHeartbeats 20000000
open Go.RowKit Tryz
open Lib renaming hid->V
set_option linter.all false
def ou:List UInt8 ->Nat
 | []=>0
 | x::l=>x.toNat %128+128*ou l
def gZ (bits:Int) (l:List UInt8):Nat × Nat × Int:=
 if(eW bits l).2≠0 then(0,0,(eW bits l).2)
 else if eO (ou (l.take (eW bits l).1))=l.take (eW bits l).1/\ou (l.take (eW bits l).1) < 2^bits.toNat then(ou (l.take (eW bits l).1),(eW bits l).1,0)
 else(0,0,1)
theorem iL {bits:Int} {l:List UInt8} (h:(eW bits l).2=0):
  1 <=bits/\bits <=64/\(eW bits l).1=cont l+1/\cont l+1 <=l.length/\(cont l:Int)+1 <=(bits+6)/7:=by
 have:=xR l;unfold eW at*;by_cases h1:bits < 1\/64 < bits
 ·rw [aD h1]at h;cases h
 rw [az h1]at*;by_cases h2:(bits+6)/7 <=cont l
 ·rw [aD h2]at h;cases h
 rw [az h2]at*;by_cases h3:cont l=l.length
 ·rw [aD h3]at h;cases h
 rw [az h3];exact⟨by omega,by omega,rfl,by omega,by omega⟩
theorem wrap_u64 (n:Int):IntKind.u64.wrap n=n %18446744073709551616:=by simp [IntKind.wrap,IntKind.bits,IntKind.signed]
theorem JX (y:Nat) (h:y < 256):bits .andNot .u8 (y:Int) 128=((y %128:Nat):Int):=by
 have h0:=u8_andNot_nat y 128 h (by omega);rw [show(255 - 128:Nat)=127 from rfl,nat_mask7]at h0;exact h0
theorem Kz (x y:Nat) (hy:y < 256):
  bits .or .u64 (IntKind.u64.wrap ((x:Int)*128)) (IntKind.u64.wrap (bits .andNot .u8 (y:Int) 128))=(((y %128+128*x) %18446744073709551616:Nat):Int):=by
 rw [JX y hy,wrap_u64,wrap_u64];have h1:((x:Int)*128) %18446744073709551616=((x*128 %18446744073709551616:Nat):Int):=by omega
 have h2:(((y %128:Nat):Int)) %18446744073709551616=((y %128:Nat):Int):=by omega
 rw [h1,h2,u64_or_nat _ _ (by omega) (by omega),nat_join 7 _ _ (by omega) (by omega)]
 congr 1
 omega
theorem DK {l:List UInt8} {k j:Nat} {y:UInt8} (hy:l[j]?=some y) (hj:j < k):ou ((l.take k).drop j)=y.toNat %128+128*ou ((l.take k).drop (j+1)):=by
 have h:(l.take k)[j]?=some y:=by rw [cQ,aD hj];exact hy
 obtain⟨LD,he⟩:=aG.1 h;rw [cq LD,ou,he]
theorem tF:∀(f n:Nat),n < 128^f ->ou (ju f n)=n
 | 0,n,h=>by
  simp at h;subst h;rfl
 | f+1,n,h=>by
  rw [ju];split
  ·rw [ou,ou,gC (by omega)]
   omega
  ·rw [ou,gC (by omega),tF f (n/128) (by rw [Nat.pow_succ]at h;omega)]
   omega
theorem sf {n:Nat} (h:n < 18446744073709551616):ou (eO n)=n:=tF 10 n (by omega)
theorem CD {bits:Int} {l:List UInt8} {k x:Nat} (he:(eW bits l).2=0) (hk:k=(eW bits l).1) (hx:x=ou (l.take k) %18446744073709551616)
  (hs:(l.take k==eO x)=true) (hr:if bits < 64 then(x:Int)/2^bits.toNat=0 else True):gZ bits l=(x,k,0):=by
 obtain⟨h1,h2,_⟩:=iL he;have hs':l.take k=eO x:=by simpa using hs
 have NQ:x < 18446744073709551616:=by omega
 have hv:ou (l.take k)=x:=by rw [hs'];exact sf NQ
 have LD:x < 2^bits.toNat:=by
  by_cases h:bits < 64
  ·rw [aD h]at hr
   have h0:((x/2^bits.toNat:Nat):Int)=0:=by rw [<- hr];simp
   have h3:x/2^bits.toNat=0:=by omega
   rcases bx x (2^bits.toNat)with h4 | h4
   ·exact h4
   ·have:=Nat.div_pos h4 (dh _)
    omega
  ·obtain rfl:bits=64:=by omega
   exact NQ
 rw [gZ,az (by rw [he];simp), <- hk,hv,aD ⟨hs'.symm,LD⟩]
theorem zt {bits:Int} {l:List UInt8} {k x:Nat} (he:(eW bits l).2=0) (hk:k=(eW bits l).1) (hx:x=ou (l.take k) %18446744073709551616)
  (hs:(l.take k==eO x)=false\/¬ (if bits < 64 then(x:Int)/2^bits.toNat=0 else True)):gZ bits l=(0,0,1):=by
 obtain⟨h1,h2,_⟩:=iL he;rw [gZ,az (by rw [he];simp), <- hk,az];rintro⟨h3,h4⟩;have h5:2^bits.toNat <=18446744073709551616:=by
  have:2^bits.toNat <=2^64:=cL (by omega) (by omega);exact this
 have hv:x=ou (l.take k):=by omega
 rcases hs with h | h
 ·rw [hv,h3]at h
  simp at h
 ·apply h
  split
  ·have h6:x/2^bits.toNat=0:=Nat.div_eq_of_lt (by omega)
   have h7:((x/2^bits.toNat:Nat):Int)=0:=by omega
   rw [<- h7];simp
  ·trivial
def Le (bits:Int) (l:List UInt8) (w:World) (e:Ending) (w':World):Prop:=
 e= .returned (.tuple #[.int .u64 (gZ bits l).1, .int .i64 (gZ bits l).2.1, .int .i64 (gZ bits l).2.2])/\Below w.heap.size w w'
def UJ (l:List UInt8) (k:Nat) (w w':World) (x i:Nat):Prop:=w'=w/\i <=k/\x=ou ((l.take k).drop i) %18446744073709551616
theorem uy (b:Value) (l:List UInt8) (bits:Int) (w:World) (hb:eG w b l) (LG: -9223372036854775808 <=bits) (Lw:bits <=9223372036854775807):
  Calls prog 204 #[b, .int .i64 bits] w (Le bits l w):=by
 by_cases he:(eW bits l).2=0
 ·obtain⟨k,hk⟩:∃k,k=(eW bits l).1:=⟨_,rfl⟩
  have HK:=V hk;have Qi:=V hb;obtain⟨LZ,MN,Oa,LH,Mz⟩:=iL he;have PC:1 <=k:=by omega
  have Mi:k <=l.length:=by omega
  have PN:k <=10:=by omega
  clear Oa LH Mz;obtain⟨a,cap,rfl,hl,hm,hc⟩:=hb;unfold maxLen at hm;have HC:=V hc;have HE:=V he;clear hc hk he;go_enter func204,ntmps204;go_wp2;refine jS 0 (fun a' w'=>∃(x i:Nat) (u8 Rj QD Rk Rl Rm u16 Rn Ro Rp u20 u21 u22 u23 u24 u25 u26 u27 u28 u29 u30 u31 u32 u33 u34 u35 u36 u37 u38 u39 u40 u41 u42 u43 u44 u45 u46 u47 u48 u49 u50 u51 u52:Value),a'={tmps:=#[.slice a l.length cap, .int .i64 bits,undef,undef, .int .u64 0, .int .i64 0, .int .i64 0, .int .i64 k,u8, .int .u64 x, .int .i64 i,Rj,QD,Rk,Rl,Rm,u16,Rn,Ro,Rp,u20,u21,u22,u23,u24,u25,u26,u27,u28,u29,u30,u31,u32,u33,u34,u35,u36,u37,u38,u39,u40,u41,u42,u43,u44,u45,u46,u47,u48,u49,u50,u51,u52],defers:=[]}/\UJ l k w w' x i) (fun a' _=>(intOf (a'.tmps.getD 10 undef)).toNat) rfl ?_ ?_
  ·rintro a' w1 ⟨x,i,u8,Rj,QD,Rk,Rl,Rm,u16,Rn,Ro,Rp,u20,u21,u22,u23,u24,u25,u26,u27,u28,u29,u30,u31,u32,u33,u34,u35,u36,u37,u38,u39,u40,u41,u42,u43,u44,u45,u46,u47,u48,u49,u50,u51,u52,rfl,hJ⟩
   obtain⟨rfl,hik,hx⟩:=hJ;have HX:=V hx;clear hx;by_cases hi:i=0
   ·subst hi
    rw [List.drop_zero]at HX;have NQ:x < 18446744073709551616:=by have:=HX.out;omega
    have hbt:eG w1 (.slice a k cap) (l.take k):=Qi.out.take k Mi;have HBT:=V hbt;clear hbt;by_cases hs:(l.take k==eO x)=true
    ·by_cases h64:bits < 64
     ·have hd:decide (bits < 64)=true:=by simpa using h64
      by_cases hr:(x:Int)/2^bits.toNat=0
      ·have PO:(((x:Int)/2^bits.toNat) !=0)=false:=by simp [hr]
       have Of:(((x:Int)/2^bits.toNat)==0)=true:=by simp [hr]
       have HR:=V hr;clear hr;have HS:=V hs;clear hs;go_wp2_with fail;refine ea (fun _=>True) (up 0 4 ((4,false)::(5,false)::up 6 11 [])) (by kernel_rfl) (by kernel_rfl) trivial ?_;iterate 4 (first | (apply sk rfl rfl;simp only [pt]) | (apply dV rfl rfl rfl;·(intro w' _;go_wp2;exact⟨rfl,rfl,rfl⟩)))
       refine dZ rfl rfl ?_;go_wp2_with (go_at_call 270;refine(iP _ [] x NQ w1.heap.size _ (ed.nil _ _) (by simp) (by simp)).mono ?_;rintro e w2 ⟨v2,rfl,L4,LH,LL⟩);have Lw:=fF (LH.below (ag _) (by intro i hi;cases hi));refine⟨trivial,?_⟩;refine dZ rfl rfl ?_;go_wp2_with (go_at_call 282;refine(lF _ _ (l.take k) (eO x) _ (HBT.out.below Lw) L4.gl).mono ?_;rintro e w3 ⟨rfl,rfl⟩;rw [HS.out]);refine⟨trivial,?_⟩;iterate 11 (first | (apply sk rfl rfl;simp only [pt]) | (apply dV rfl rfl rfl;·(intro w' _;go_wp2;exact⟨rfl,rfl,rfl⟩)))
       refine eF ?_;refine aA ?_;go_wp2;rw [iy]
       go_ret3
       refine⟨?_,Lw⟩;rw [CD HE.out HK.out HX.out HS.out (by rw [aD h64];exact HR.out)];rfl
      ·have PO:(((x:Int)/2^bits.toNat) !=0)=true:=by simp [hr]
       have Of:(((x:Int)/2^bits.toNat)==0)=false:=by simp [hr]
       have HR:=V hr;clear hr;have HS:=V hs;clear hs;go_wp2_with fail;refine ea (fun _=>True) (up 0 4 ((4,false)::(5,false)::up 6 11 [])) (by kernel_rfl) (by kernel_rfl) trivial ?_;iterate 4 (first | (apply sk rfl rfl;simp only [pt]) | (apply dV rfl rfl rfl;·(intro w' _;go_wp2;exact⟨rfl,rfl,rfl⟩)))
       refine dZ rfl rfl ?_;go_wp2_with (go_at_call 270;refine(iP _ [] x NQ w1.heap.size _ (ed.nil _ _) (by simp) (by simp)).mono ?_;rintro e w2 ⟨v2,rfl,L4,LH,LL⟩);have Lw:=fF (LH.below (ag _) (by intro i hi;cases hi));refine⟨trivial,?_⟩;refine dZ rfl rfl ?_;go_wp2_with (go_at_call 282;refine(lF _ _ (l.take k) (eO x) _ (HBT.out.below Lw) L4.gl).mono ?_;rintro e w3 ⟨rfl,rfl⟩;rw [HS.out]);refine⟨trivial,?_⟩;iterate 11 (first | (apply sk rfl rfl;simp only [pt]) | (apply dV rfl rfl rfl;·(intro w' _;go_wp2;exact⟨rfl,rfl,rfl⟩)))
       refine eF ?_;refine aA ?_;go_wp2;rw [iy]
       go_ret3
       refine⟨?_,Lw⟩;rw [zt HE.out HK.out HX.out (.inr (by rw [aD h64];exact HR.out))];rfl
     ·have hd:decide (bits < 64)=false:=by simpa using h64
      have HS:=V hs;clear hs;go_wp2_with fail;refine ea (fun _=>True) (up 0 4 ((4,false)::(5,false)::up 6 11 [])) (by kernel_rfl) (by kernel_rfl) trivial ?_;iterate 4 (first | (apply sk rfl rfl;simp only [pt]) | (apply dV rfl rfl rfl;·(intro w' _;go_wp2;exact⟨rfl,rfl,rfl⟩)))
      refine dZ rfl rfl ?_;go_wp2_with (go_at_call 270;refine(iP _ [] x NQ w1.heap.size _ (ed.nil _ _) (by simp) (by simp)).mono ?_;rintro e w2 ⟨v2,rfl,L4,LH,LL⟩);have Lw:=fF (LH.below (ag _) (by intro i hi;cases hi));refine⟨trivial,?_⟩;refine dZ rfl rfl ?_;go_wp2_with (go_at_call 282;refine(lF _ _ (l.take k) (eO x) _ (HBT.out.below Lw) L4.gl).mono ?_;rintro e w3 ⟨rfl,rfl⟩;rw [HS.out]);refine⟨trivial,?_⟩;iterate 11 (first | (apply sk rfl rfl;simp only [pt]) | (apply dV rfl rfl rfl;·(intro w' _;go_wp2;exact⟨rfl,rfl,rfl⟩)))
      refine eF ?_;refine aA ?_;go_wp2;rw [iy]
      go_ret3
      refine⟨?_,Lw⟩;rw [CD HE.out HK.out HX.out HS.out (by rw [az (by omega)];trivial)];rfl
    ·rw [Bool.not_eq_true]at hs
     have HS:=V hs;clear hs;go_wp2_with fail;refine ea (fun _=>True) (up 0 4 ((4,false)::(5,false)::up 6 11 [])) (by kernel_rfl) (by kernel_rfl) trivial ?_;iterate 4 (first | (apply sk rfl rfl;simp only [pt]) | (apply dV rfl rfl rfl;·(intro w' _;go_wp2;exact⟨rfl,rfl,rfl⟩)))
     refine dZ rfl rfl ?_;go_wp2_with (go_at_call 270;refine(iP _ [] x NQ w1.heap.size _ (ed.nil _ _) (by simp) (by simp)).mono ?_;rintro e w2 ⟨v2,rfl,L4,LH,LL⟩);have Lw:=fF (LH.below (ag _) (by intro i hi;cases hi));refine⟨trivial,?_⟩;refine dZ rfl rfl ?_;go_wp2_with (go_at_call 282;refine(lF _ _ (l.take k) (eO x) _ (HBT.out.below Lw) L4.gl).mono ?_;rintro e w3 ⟨rfl,rfl⟩;rw [HS.out]);refine⟨trivial,?_⟩;iterate 11 (first | (apply sk rfl rfl;simp only [pt]) | (apply dV rfl rfl rfl;·(intro w' _;go_wp2;exact⟨rfl,rfl,rfl⟩)))
     refine eF ?_;refine aA ?_;go_wp2;rw [iy]
     go_ret3
     refine⟨?_,Lw⟩;rw [zt HE.out HK.out HX.out (.inl HS.out)];rfl
   ·obtain⟨j,rfl⟩:∃j,i=j+1:=⟨i - 1,by omega⟩
    obtain⟨y,hy⟩:∃y,l[j]?=some y:=⟨_,aq (show j < l.length by omega)⟩;obtain⟨b,off,rfl,hc⟩:=HC.out j y hy;have hy8:=y.toNat_lt;have HY:=V hy;clear hy;have LD:j < l.length:=by omega
    go_wp2_with fail
    go_step3
    simp only [Exit.then];rw [Kz x y.toNat hy8];refine lk ⟨_,j,_,_,_,_,_,_,_,_,_,_,_,_,_,_,_,_,_,_,_,_,_,_,_,_,_,_,_,_,_,_,_,_,_,_,_,_,_,_,_,_,_,_,_,rfl,rfl,by omega,?_⟩ ?_
    ·rw [DK HY.out (by omega),HX.out]
     omega
    ·simp [intOf]
  ·intro H
   have Hh:=V H;clear H;go_wp2_with (go_at_call 281;refine(mD _ l _ _ Qi.out (by omega) (by omega)).mono ?_;rintro e w' ⟨rfl,rfl⟩;rw [HE.out, <- HK.out])
   go_step3
   go_step
   go_step
   refine Hh.out _ _ ⟨0,k,_,_,_,_,_,_,_,_,_,_,_,_,_,_,_,_,_,_,_,_,_,_,_,_,_,_,_,_,_,_,_,_,_,_,_,_,_,_,_,_,_,_,_,rfl,rfl,ag _,?_⟩;rw [List.drop_eq_nil_of_le (by rw [aP];omega)];rfl
 ·have HE:=V he
  have Qi:=V hb;have HB:=V (dR he);clear he hb;go_enter func204,ntmps204;go_wp2
  go_step3
  go_wp2_with (go_at_call 281;refine(mD _ l _ _ Qi.out (by omega) (by omega)).mono ?_;rintro e w' ⟨rfl,rfl⟩;have hb:=HB.out);rw [Exit.noGoto_ret]
  go_ret3
  refine⟨?_,an _ _⟩;rw [gZ,aD HE.out];rfl
def iI:Nat ->Int ->List UInt8
 | 0,_=>[]
 | f+1,n=>if -64 <=n/\n < 64 then [b8 (n %128).toNat]else b8 ((n %128).toNat+128)::iI f (n/128)
def ie (n:Int):List UInt8:=iI 10 n
def KC (xs:List UInt8) (u:Int) (B:Nat) (b:Value) (w w':World) (v:Value) (n:Int):Prop:=
 ∃(ys:List UInt8) (k f:Nat),ed w' B v ys/\dU (ez b) w w'/\eB w b v/\ys.length <=xs.length+k/\k+f=9/\ -((128:Int)^f) <=n/\n < 128^f/\ys++iI (f+1) n=xs++iI 10 u
def IX (xs:List UInt8) (u:Int) (B:Nat) (b:Value) (w:World) (e:Ending) (w':World):Prop:=
 ∃v,e= .returned v/\ed w' B v (xs++ie u)/\dU (ez b) w w'/\eB w b v
theorem uP (n:Int):bits .andNot .u8 (n %256) 128=n %128:=by
 obtain⟨m,hm⟩:∃m:Nat,(m:Int)=n %256:=⟨(n %256).toNat,by omega⟩;rw [<- hm,JX m (by omega)];omega
theorem Kw:∀x:Fin 128,x.val&&&64=if x.val < 64 then 0 else 64:=by decide+kernel
theorem Ch (n:Int):bits .and .u8 (n %128) 64=if n %128 < 64 then 0 else 64:=by
 obtain⟨m,hm⟩:∃m:Nat,(m:Int)=n %128:=⟨(n %128).toNat,by omega⟩;have h0:=u8_and_nat m 64 (by omega) (by omega);rw [Kw ⟨m,by omega⟩]at h0;rw [<- hm];refine h0.trans ?_;by_cases h:m < 64
 ·rw [aD h,aD (by omega)];rfl
 ·rw [az h,az (by omega)];rfl
theorem Ji (n:Int):bits .andNot .u8 (n %256) 128=((b8 (n %128).toNat).toNat:Int):=by
 rw [uP,gC (by omega)];omega
theorem E7 (n:Int):bits .or .u8 (bits .andNot .u8 (n %256) 128) 128=((b8 ((n %128).toNat+128)).toNat:Int):=by
 rw [uP,gC (by omega)];obtain⟨m,hm⟩:∃m:Nat,(m:Int)=n %128:=⟨(n %128).toNat,by omega⟩;rw [<- hm,uB m (by omega)];omega
theorem mQ (b:Value) (xs:List UInt8) (u:Int) (h0: -9223372036854775808 <=u) (h1:u <=9223372036854775807) (B:Nat) (w:World) (Lu:ed w B b xs) (hn:xs.length <=1000000000) (hB:B <=w.heap.size):
  Calls prog 297 #[b, .int .i64 u] w (IX xs u B b w):=by
 go_enter func297,ntmps297;go_wp2;refine jS 0 (fun a' w'=>∃(v:Value) (n:Int) (u5 u6 u7 u8 u9 u10 Rj QD Rk Rl Rm u16 Rn Ro Rp u20 u21 u22 u23 u24 u25 u26 u27 u28 u29 u30 u31 u32 u33 u34 u35:Value),a'={tmps:=#[v, .int .i64 n,undef,undef, .slice none 0 0,u5,u6,u7,u8,u9,u10,Rj,QD,Rk,Rl,Rm,u16,Rn,Ro,Rp,u20,u21,u22,u23,u24,u25,u26,u27,u28,u29,u30,u31,u32,u33,u34,u35],defers:=[]}/\KC xs u B b w w' v n) (fun a' _=>(intOf (a'.tmps.getD 1 undef)).natAbs) rfl ?_ ?_
 ·rintro a' w1 ⟨v,n,u5,u6,u7,u8,u9,u10,Rj,QD,Rk,Rl,Rm,u16,Rn,Ro,Rp,u20,u21,u22,u23,u24,u25,u26,u27,u28,u29,u30,u31,u32,u33,u34,u35,rfl,hJ⟩
  obtain⟨ys,k,f,OH,hk,hs,hlen,hkf,hnf1,hnf2,heq⟩:=hJ;have HE:=V heq;have HK:=V hkf;have hk9:k <=9:=by omega
  clear heq hkf Lu;have Mq:=hk.size;have hc:=Ch n;rw [<- uP]at hc;have HC:=V hc;clear hc;by_cases n0:n/128=0
  ·by_cases n1:n %128 < 64
   ·have e1:=eI n0
    have e2:(bits .and .u8 (bits .andNot .u8 (n %256) 128) 64==0)=true:=by rw [HC.out,uP,aD n1];rfl
    have Mr: -64 <=n/\n < 64:=by omega
    clear n0;have HS:=V Mr;clear Mr;go_wp2_with (first | (at_builtin;refine eT w1 rfl _ _ rfl rfl B v ys rfl OH (b8 (n %128).toNat) _ (Ji n) rfl ?_ ?_ ?_))
    ·omega
    ·omega
    ·intro v' w2 L4 LH LL
     go_wp2;rw [iy];go_ret;refine⟨v',rfl,?_,hk.trans LH ?_,hs.trans LL Mq⟩
     ·have h:=HE.out
      rw [iI,aD HS.out]at h;rw [ie, <- h];exact L4
     ·exact fun i hi=>hs i hi
   ·have e1:=eI n0
    have e2:(bits .and .u8 (bits .andNot .u8 (n %256) 128) 64==0)=false:=by rw [HC.out,uP,az n1];rfl
    have e3:=dR (a:=n/128) (b:= -1) (by omega);have Mr:¬ (-64 <=n/\n < 64):=by omega
    clear n0;have HS:=V Mr;clear Mr;go_wp2_with (first | (at_builtin;refine eT w1 rfl _ _ rfl rfl B v ys rfl OH (b8 ((n %128).toNat+128)) _ (E7 n) rfl ?_ ?_ ?_))
    ·omega
    ·omega
    ·intro v' w2 L4 LH LL
     go_wp2
     go_step3
     have Mr:=HS.out;have hf:f≠0:=by
      rintro rfl;omega
     obtain⟨f',rfl⟩:∃f',f=f'+1:=⟨f - 1,by omega⟩;refine lk ⟨v',n/128,_,_,_,_,_,_,_,_,_,_,_,_,_,_,_,_,_,_,_,_,_,_,_,_,_,_,_,_,_,_,_,rfl,ys++[b8 ((n %128).toNat+128)],k+1,f',L4,hk.trans LH (fun i hi=>hs i hi),hs.trans LL Mq,?_,?_,?_,?_,?_⟩ ?_
     ·simp
      omega
     ·have:=HK.out
      omega
     ·rw [bN]at hnf1
      omega
     ·rw [bN]at hnf2
      omega
     ·have h:=HE.out
      rw [iI,az Mr]at h;rw [<- h];simp
     ·simp [intOf]
      omega
  by_cases n0:n/128= -1
  ·by_cases n1:n %128 < 64
   ·have e1:=eI n0
    have e2:(bits .and .u8 (bits .andNot .u8 (n %256) 128) 64 !=0)=false:=by rw [HC.out,uP,aD n1];rfl
    have e3:=dR (a:=n/128) (b:=0) (by omega);have Mr:¬ (-64 <=n/\n < 64):=by omega
    clear n0;have HS:=V Mr;clear Mr;go_wp2_with (first | (at_builtin;refine eT w1 rfl _ _ rfl rfl B v ys rfl OH (b8 ((n %128).toNat+128)) _ (E7 n) rfl ?_ ?_ ?_))
    ·omega
    ·omega
    ·intro v' w2 L4 LH LL
     go_wp2
     go_step3
     have Mr:=HS.out;have hf:f≠0:=by
      rintro rfl;omega
     obtain⟨f',rfl⟩:∃f',f=f'+1:=⟨f - 1,by omega⟩;refine lk ⟨v',n/128,_,_,_,_,_,_,_,_,_,_,_,_,_,_,_,_,_,_,_,_,_,_,_,_,_,_,_,_,_,_,_,rfl,ys++[b8 ((n %128).toNat+128)],k+1,f',L4,hk.trans LH (fun i hi=>hs i hi),hs.trans LL Mq,?_,?_,?_,?_,?_⟩ ?_
     ·simp
      omega
     ·have:=HK.out
      omega
     ·rw [bN]at hnf1
      omega
     ·rw [bN]at hnf2
      omega
     ·have h:=HE.out
      rw [iI,az Mr]at h;rw [<- h];simp
     ·simp [intOf]
      omega
   ·have e1:=eI n0
    have e2:(bits .and .u8 (bits .andNot .u8 (n %256) 128) 64 !=0)=true:=by rw [HC.out,uP,az n1];rfl
    have e3:=dR (a:=n/128) (b:=0) (by omega);have Mr: -64 <=n/\n < 64:=by omega
    clear n0;have HS:=V Mr;clear Mr;go_wp2_with (first | (at_builtin;refine eT w1 rfl _ _ rfl rfl B v ys rfl OH (b8 (n %128).toNat) _ (Ji n) rfl ?_ ?_ ?_))
    ·omega
    ·omega
    ·intro v' w2 L4 LH LL
     go_wp2;rw [iy];go_ret;refine⟨v',rfl,?_,hk.trans LH ?_,hs.trans LL Mq⟩
     ·have h:=HE.out
      rw [iI,aD HS.out]at h;rw [ie, <- h];exact L4
     ·exact fun i hi=>hs i hi
  ·have e1:=dR (a:=n/128) (b:=0) (by omega)
   have e2:=dR (a:=n/128) (b:= -1) (by omega);have Mr:¬ (-64 <=n/\n < 64):=by omega
   have HS:=V Mr;clear Mr;go_wp2_with (first | (at_builtin;refine eT w1 rfl _ _ rfl rfl B v ys rfl OH (b8 ((n %128).toNat+128)) _ (E7 n) rfl ?_ ?_ ?_))
   ·omega
   ·omega
   ·intro v' w2 L4 LH LL
    go_wp2
    go_step3
    have Mr:=HS.out;have hf:f≠0:=by
     rintro rfl;omega
    obtain⟨f',rfl⟩:∃f',f=f'+1:=⟨f - 1,by omega⟩;refine lk ⟨v',n/128,_,_,_,_,_,_,_,_,_,_,_,_,_,_,_,_,_,_,_,_,_,_,_,_,_,_,_,_,_,_,_,rfl,ys++[b8 ((n %128).toNat+128)],k+1,f',L4,hk.trans LH (fun i hi=>hs i hi),hs.trans LL Mq,?_,?_,?_,?_,?_⟩ ?_
    ·simp
     omega
    ·have:=HK.out
     omega
    ·rw [bN]at hnf1
     omega
    ·rw [bN]at hnf2
     omega
    ·have h:=HE.out
     rw [iI,az Mr]at h;rw [<- h];simp
    ·simp [intOf]
     omega
 ·intro H
  apply wp_seq_k;intro K hK;apply wp_label;apply hK;exact H _ _ ⟨b,u,_,_,_,_,_,_,_,_,_,_,_,_,_,_,_,_,_,_,_,_,_,_,_,_,_,_,_,_,_,_,_,rfl,xs,0,9,Lu,dU.refl _ _,eB.refl _ _,by omega,rfl,by omega,by omega,rfl⟩
def jk (w:World) (e:Ending) (w':World):Prop:=e= .returned (.bool true)/\Below w.heap.size w w'
theorem dT {a b c:World} (h:Below a.heap.size a b) (k:Below b.heap.size b c):Below a.heap.size a c:=h.trans (k.mono h.size)
theorem rM {a b:World} {v:Value} (h:dU (ez v) a b) (hv:v.ownBlock=none):Below a.heap.size a b:=h.below (ag _) (fun i hi=>by rw [ez,hv]at hi;cases hi)
theorem eL (n:Nat):1 <=(eO n).length/\(eO n).length <=10:=by
 have h:∀f n,(ju f n).length <=f:=by
  intro f
  induction f with
  | zero=>intro n;simp [ju]
  | succ f ih=>
   intro n;rw [ju];split
   ·simp
   ·have:=ih (n/128)
    simp;omega
 refine⟨?_,h 10 n⟩;rw [eO,ju];split <;>simp
theorem ed.open {w:World} {B:Nat} {v:Value} {l:List UInt8} (h:ed w B v l) (hl:l≠[]):
  ∃g cap,v= .slice (some ⟨g,0,none⟩) l.length cap/\B <=g/\g < w.heap.size/\l.length <=cap/\cap <=maxLen/\(∀i x,l[i]?=some x ->w.cell? ⟨g,i,none⟩=some (bv x))/\∀i,w.frozen? ⟨g,i,none⟩=false:=by
 have hi:=h.gl;obtain⟨h1,h2 | ⟨g,cap,cur,hv,hb,hg,hn,hm,hs,ht⟩⟩:=h
 ·exact absurd (aH h2.2) hl
 ·refine⟨g,cap,hv,hb,(bZ.1 hg).1,hn,hm,fun i x hx=>?_,fun i=>cX w g i cur _ hg⟩
  obtain⟨a,c,P6,_,_,hc⟩:=hi;obtain⟨b,off,ha,Mj⟩:=hc i x hx;rw [hv]at P6;injection P6 with e1 e2 e3;subst e1;injection ha with ha;injection ha with e1 e2;subst e1 e2
  rwa [bR]at Mj
def sliceFrom (a:Option Addr) (len cap k:Nat):Value:= .slice (if cap=k then a else a.map (·.add (k*1))) (len - k) (cap - k)
theorem oX (a:Option Addr) (len cap k:Nat) (hk:k <=len) (w:World):
  (Instr.slice 104 (.slice a len cap) (some (.int .i64 k)) none none).run prog w= .ok (sliceFrom a len cap k) w:=by
 have hu:prog.underlying 104=some (.slice 5):=by kernel_rfl
 obtain⟨i0,hi,NM,ME,Nd⟩:=bV nV;simp [Instr.slice,bj hu,Instr.sliceBounds,Instr.sliceBound,sizeOf,typeInfo,hi,ME,asIntOf,hk,sliceFrom]
theorem eG.drop {w:World} {a:Option Addr} {n cap:Nat} {l:List UInt8} (h:eG w (.slice a n cap) l) (k:Nat) (hk:k <=l.length):eG w (sliceFrom a n cap k) (l.drop k):=by
 obtain⟨a',LQ,hv,h1,h2,h3⟩:=h;injection hv with e1 e2 e3;subst e1 e2 e3;refine⟨_,cap - k,by rw [sliceFrom,bg],by rw [bg];omega,by simp only [maxLen]at*;omega,fun i x hx=>?_⟩;rw [List.getElem?_drop]at hx;obtain⟨b,off,rfl,hc⟩:=h3 _ x hx;have LD:=(aG.1 hx).1;rw [az (by omega)];refine⟨b,off+k,?_,?_⟩
 ·simp only [bq,aY]
  unfold Addr.add;split <;>simp_all
 ·rw [Nat.add_assoc]
  exact hc
theorem nO (p:List UInt8) (z:UInt8) (rest:List UInt8) (hp:∀y∈p,128 <=y.toNat) (hz:z.toNat < 128):cont (p++z::rest)=p.length:=by
 induction p with
 | nil=>simp [cont];omega
 | cons x p ih=>
  rw [bI,cont,aD (hp x (by simp)),ih (fun y hy=>hp y (by simp [hy]))];rfl
theorem rG:∀(f n:Nat),n < 128^(f+1) ->∃p z,ju (f+1) n=p++[z]/\(∀y∈p,128 <=y.toNat)/\z.toNat < 128/\p.length <=f:=by
 intro f
 induction f with
 | zero=>
  intro n h;exact⟨[],b8 n,by rw [ju,aD (by omega)];rfl,by simp,by rw [gC (by omega)];omega,ag _⟩
 | succ f ih=>
  intro n h;rw [ju];split
  ·exact⟨[],b8 n,rfl,by simp,by rw [gC (by omega)];omega,by simp⟩
  ·obtain⟨p,z,h1,h2,h3,h4⟩:=ih (n/128) (by rw [Nat.pow_succ]at h;omega)
   refine⟨b8 (n %128+128)::p,z,by rw [h1];rfl,fun y hy=>?_,h3,by simpa using h4⟩;rcases bH.1 hy with rfl | hy
   ·rw [gC (by omega)]
    omega
   ·exact h2 y hy
theorem oQ:∀(f:Nat) (n:Int),-((128:Int)^(f+1)) <=2*n ->2*n < 128^(f+1) ->∃p z,iI (f+1) n=p++[z]/\(∀y∈p,128 <=y.toNat)/\z.toNat < 128/\p.length <=f:=by
 intro f
 induction f with
 | zero=>
  intro n h h';exact⟨[],b8 (n %128).toNat,by rw [iI,aD (by omega)];rfl,by simp,by rw [gC (by omega)];omega,ag _⟩
 | succ f ih=>
  intro n h h';rw [iI];split
  ·exact⟨[],b8 (n %128).toNat,rfl,by simp,by rw [gC (by omega)];omega,by simp⟩
  ·rw [bN,bN]at h h'
   obtain⟨p,z,h1,h2,h3,h4⟩:=ih (n/128) (by rw [bN];omega) (by rw [bN];omega);refine⟨b8 ((n %128).toNat+128)::p,z,by rw [h1];rfl,fun y hy=>?_,h3,by simpa using h4⟩;rcases bH.1 hy with rfl | hy
   ·rw [gC (by omega)]
    omega
   ·exact h2 y hy
theorem DF {L p q:List UInt8} (hL:L=p++q) (a:Option Addr) (cap:Nat):∃a2 LA,
  (∀wx,(Instr.slice 104 (.slice a L.length cap) (some (.int .i64 p.length)) none none).run prog wx= .ok (.slice a2 q.length LA) wx)/\
  ∀wy,eG wy (.slice a L.length cap) L ->eG wy (.slice a2 q.length LA) q:=by
 have hle:p.length <=L.length:=by rw [hL];simp
 have hd:L.drop p.length=q:=by rw [hL];exact cZ
 have hl:L.length - p.length=q.length:=by rw [hL];simp
 refine⟨if cap=p.length then a else a.map (·.add (p.length*1)),cap - p.length,fun wx=>?_,fun wy h=>?_⟩
 ·rw [oX a L.length cap p.length hle wx,sliceFrom,hl]
 ·have:=h.drop p.length hle
  rw [hd,sliceFrom,hl]at this;exact this
theorem rV:∀(f n:Nat),n < 128^f ->(ju f n).length <=1\/128^((ju f n).length - 1) <=n
 | 0,n,_=>by simp [ju]
 | f+1,n,h=>by
  rw [ju];split
  ·left;simp
  ·rename_i hge
   right
   rcases rV f (n/128) (by rw [Nat.pow_succ]at h;omega)with h1 | h1
   ·have:(b8 (n %128+128)::ju f (n/128)).length - 1 <=1:=by simp;exact h1
    have h2:128^((b8 (n %128+128)::ju f (n/128)).length - 1) <=128^1:=cL (by omega) this;omega
   ·rw [aE,de]
    rcases aZ (ju f (n/128)).length with h0 | h0
    ·rw [h0]
     omega
    ·obtain⟨m,hm⟩:∃m,(ju f (n/128)).length=m+1:=⟨_,(Nat.succ_pred_eq_of_pos h0).symm⟩
     rw [hm]at h1⊢;rw [de]at h1;rw [Nat.pow_succ];have:=cK 128 h1;omega
theorem Dd:∀(f:Nat) (n:Int),-((128:Int)^(f+1)) <=2*n ->2*n < 128^(f+1) ->(iI (f+1) n).length=1\/((iI (f+1) n).length≠0/\¬ (-(64*128^((iI (f+1) n).length - 2)) <=n/\n < 64*128^((iI (f+1) n).length - 2))):=by
 intro f
 induction f with
 | zero=>
  intro n h h'
  left
  rw [iI,aD (by omega)];rfl
 | succ f ih=>
  intro n h h';rw [iI];split
  ·left;rfl
  ·rename_i hs
   right
   rw [bN,bN]at h h';obtain h1 | h1:=ih (n/128) (by rw [bN];omega) (by rw [bN];omega)
   ·rw [aE,h1]
    simp;omega
   ·rw [aE]
    obtain⟨h0,h1⟩:=h1;obtain⟨m,hm⟩:∃m,(iI (f+1) (n/128)).length=m+1:=⟨_,(Nat.succ_pred_eq_of_pos (Nat.pos_of_ne_zero h0)).symm⟩;rw [hm]at h1⊢;refine⟨by omega,?_⟩;rcases aZ m with hm0 | hm0
    ·subst hm0
     simp;omega
    ·obtain⟨m',rfl⟩:∃m',m=m'+1:=⟨m - 1,by omega⟩
     rw [show m'+1+1 - 2=m' from by omega]at h1;rw [show m'+1+1+1 - 2=m'+1 from by omega,bN];omega
theorem Cp (l:List UInt8):(bs l).size=l.length:=by simp [bs,ByteArray.size]
theorem iB {P:Program} (w:World) {ops:Array Oper} {rest:List Oper} {o:Oper} {a:Act} {Q:Exit ->Act ->World ->Prop} (OP:o.guard=none) (s x:Operand)
  (hP:P=prog) (ho:o.op= .call {callee:= .builtin .append,args:=#[s,x],argTypes:=#[104,104]})
  (B:Nat) (v:Value) (l:List UInt8) (hs:a.eval s=v) (Lu:ed w B v l)
  (b:Value) (m:List UInt8) (hx:a.eval x=b) (hm:eG w b m)
  (OU:l.length+m.length <=140737488355327) (LW:B <=w.heap.size)
  (h:∀v' w',ed w' B v' (l++m) ->dU (ez v) w w' ->eB w v v' ->wpList P ops Q rest (a.put o.dst v') w'):wpList P ops Q (o::rest) a w:=by
 subst hP;obtain⟨i0,hi,NM,ME,Nd⟩:=bV nV;obtain⟨ad,cap,rfl,N3,MF,hc3⟩:=hm;cases m with
 | nil=>
  have key:∃v' w',(Builtin.append_ #[104,104] o.type #[v, .slice ad 0 cap]).run prog w= .ok v' w'/\ed w' B v' (l++[])/\dU (ez v) w w'/\eB w v v':=by
   cases ad with
   | some ad=>
    obtain⟨v',w',h1,h2,h3,h4⟩:=tl (P:=prog) w B 104 o.type 5 i0 (.int .u8 0) 1 1 (by kernel_rfl) hi NM ME Nd rfl (by decide) v l.length (l.map bv) Lu ad 0 cap [] rfl (by simp) (by simp) (by simp only [maxLen];omega) (by omega) LW;exact⟨v',w',h1,by simpa [ed] using h2,h3,h4⟩
   | none=>
    have ht:prog.underlying 104=some (.slice 5):=by kernel_rfl
    rcases Lu.2 with⟨rfl,h0⟩ | ⟨g,LQ,cur,rfl,hb,hg,hn,hm,hs,O2⟩
    ·refine⟨.slice none 0 0,w,?_,by simpa using Lu,dU.refl _ _,eB.refl _ _⟩
     simp [Builtin.append_,bj ht,sizeOf,typeInfo,hi,Builtin.lenOf,Builtin.firstCells]
    ·refine⟨.slice (some ⟨g,0,none⟩) l.length LQ,w,?_,by simpa using Lu,dU.refl _ _,eB.refl _ _⟩
     simp [Builtin.append_,bj ht,sizeOf,typeInfo,hi,Builtin.lenOf,Builtin.firstCells,hn];simp [storeCells]
  obtain⟨v',w',hr,h2,h3,h4⟩:=key;refine dK OP fun _ hK=>?_;unfold Oper.wp execOp;simp only [ho,resolve,invoke,builtin,cG,bX,cz,dr,bF,cT,hs,hx,hr,aL];exact hK _ _ (h v' w' h2 h3 h4)
 | cons y m=>
  obtain⟨b,off,rfl,_⟩:=hc3 0 y rfl;refine qO (P:=prog) w OP s x 104 ho B 5 i0 (.int .u8 0) 1 1 (by kernel_rfl) hi NM ME Nd rfl (by decide) v l.length (l.map bv) hs Lu ⟨b,off,none⟩ (y::m).length cap ((y::m).map bv) hx (by simp) ?_ (Ce _) (by simp only [maxLen];omega) (by omega) LW ?_
  ·intro j u hu
   rw [cM]at hu;cases hj:(y::m)[j]? with
   | none=>rw [hj]at hu;cases hu
   | some z=>
    rw [hj]at hu;simp at hu;subst hu;obtain⟨b',off',he,hc⟩:=hc3 j z hj;injection he with he;injection he with e1 e2;subst e1 e2;have O1:(⟨b,off,none⟩:Addr).add j=⟨b,off+j,none⟩:=by
     unfold Addr.add;split <;>simp_all
    rw [O1];exact hc
  ·intro v' w' h2 h3 h4
   refine h v' w' ?_ h3 h4;rw [ed,ah,cn];exact h2
def CB (s:Int):List UInt8 ->Int
 | []=>s
 | x::l=>(x.toNat %128:Nat)+128*CB s l
def qk (l:List UInt8):Int:=match l.getLast? with
 | some x=>if x.toNat %128 < 64 then 0 else -1
 | none=>0
def yx (l:List UInt8):Int:=CB (qk l) l
def jb (bits:Int) (l:List UInt8):Int × Nat × Int:=
 if(eW bits l).2≠0 then(0,0,(eW bits l).2)
 else if ie (yx (l.take (eW bits l).1))=l.take (eW bits l).1/\ -(2^(bits.toNat - 1)) <=yx (l.take (eW bits l).1)/\yx (l.take (eW bits l).1) < 2^(bits.toNat - 1)then(yx (l.take (eW bits l).1),(eW bits l).1,0)
 else(0,0,1)
def Lh (bits:Int) (l:List UInt8) (w:World) (e:Ending) (w':World):Prop:=
 e= .returned (.tuple #[.int .i64 (jb bits l).1, .int .i64 (jb bits l).2.1, .int .i64 (jb bits l).2.2])/\Below w.heap.size w w'
def CF (n:Int):Int:=(n+9223372036854775808) %18446744073709551616 - 9223372036854775808
theorem JA (a c:Int) (ha:a %128=0) (h0:0 <=c) (h1:c < 128):bits .or .i64 a c=CF (a+c):=by
 unfold bits CF;simp only [IntKind.bits,IntKind.wrap_i64];have e1:(BitVec.ofInt 64 a).toNat=(a %18446744073709551616).toNat:=by simp [BitVec.toNat_ofInt]
 have e2:(BitVec.ofInt 64 c).toNat=c.toNat:=by
  have:(BitVec.ofInt 64 c).toNat=(c %18446744073709551616).toNat:=by simp [BitVec.toNat_ofInt]
  rw [this];omega
 have e3:(BitVec.ofInt 64 a ||| BitVec.ofInt 64 c).toNat=(a %18446744073709551616).toNat+c.toNat:=by
  rw [BitVec.toNat_or,e1,e2,nat_join 7 _ _ (by omega) (by omega)]
 have e4:=cU (fun n:Nat=>((n:Int)+9223372036854775808) %18446744073709551616 - 9223372036854775808) e3;refine Eq.trans e4 ?_;omega
theorem JS:∀x:Fin 256,x.val&&&64=if x.val %128 < 64 then 0 else 64:=by decide+kernel
theorem zu (n:Nat) (h:n < 256):bits .and .u8 (n:Int) 64=if n %128 < 64 then 0 else 64:=by
 have h0:=u8_and_nat n 64 h (by omega);rw [JS ⟨n,h⟩]at h0;refine h0.trans ?_;by_cases h:n %128 < 64
 ·rw [aD h,aD h];rfl
 ·rw [az h,az h];rfl
theorem JK (x:Int) (y:Nat) (hy:y < 256):
  bits .or .i64 (wrap64 (x*128)) (wrap64 (bits .andNot .u8 (y:Int) 128))=CF ((y %128:Nat)+128*x):=by
 rw [JX y hy];have h2:wrap64 ((y %128:Nat):Int)=((y %128:Nat):Int):=by unfold wrap64;omega
 rw [h2,JA _ _ (by unfold wrap64;omega) (by omega) (by omega)];unfold wrap64 CF;omega
theorem Ev (c x:Int):CF (c+128*CF x)=CF (c+128*x):=by
 unfold CF;omega
theorem zS {l:List UInt8} {j:Nat} {y:UInt8} (hy:l[j]?=some y):qk (l.take (j+1))=if y.toNat %128 < 64 then 0 else -1:=by
 obtain⟨LD,he⟩:=aG.1 hy;have:(l.take (j+1)).getLast?=some y:=by
  rw [dG,aP,cm (by omega),de,cQ,aD (by omega),hy]
 rw [qk,this]
theorem C5:∀(f:Nat) (n:Int),-((128:Int)^(f+1)) <=2*n ->2*n < 128^(f+1) ->iI (f+1) n≠[]/\CB (qk (iI (f+1) n)) (iI (f+1) n)=n:=by
 intro f
 induction f with
 | zero=>
  intro n h h';rw [iI,aD (by omega)];refine⟨by simp,?_⟩;simp only [qk,List.getLast?_singleton,CB];rw [gC (by omega)];split <;>omega
 | succ f ih=>
  intro n h h';rw [iI];split
  ·rename_i hs
   refine⟨by simp,?_⟩;simp only [qk,List.getLast?_singleton,CB];rw [gC (by omega)];split <;>omega
  ·rename_i hs
   rw [bN,bN]at h h';obtain⟨h1,h2⟩:=ih (n/128) (by rw [bN];omega) (by rw [bN];omega);refine⟨by simp,?_⟩;have h3:qk (b8 ((n %128).toNat+128)::iI (f+1) (n/128))=qk (iI (f+1) (n/128)):=by
    cases hc:iI (f+1) (n/128)with
    | nil=>exact absurd hc h1
    | cons x l=>simp [qk,cY]
   rw [h3,CB,h2,gC (by omega)];omega
theorem rS {n:Int} (h: -9223372036854775808 <=n) (h':n < 9223372036854775808):yx (ie n)=n:=(C5 9 n (by omega) (by omega)).2
theorem om {x:Int} {n:Nat}:x/2^n=0↔0 <=x/\x < 2^n:=by
 have hp:(0:Int) < 2^n:=Int.pow_pos (by omega)
 constructor
 ·intro h
  have h1:=Int.emod_nonneg x (Int.ne_of_gt hp);have h2:=Int.emod_lt_of_pos x hp;have h3:=Int.mul_ediv_add_emod x (2^n);rw [h]at h3;omega
 ·rintro⟨h1,h2⟩
  exact Int.ediv_eq_zero_of_lt h1 h2
theorem sE {x:Int} {n:Nat}:x/2^n= -1↔-(2^n) <=x/\x < 0:=by
 have hp:(0:Int) < 2^n:=Int.pow_pos (by omega);have e:x/2^n=(x+2^n)/2^n - 1:=by
  have:=Int.add_mul_ediv_right x 1 (Int.ne_of_gt hp);rw [Int.one_mul]at this;omega
 rw [e];have:=@om (x+2^n) n;omega
theorem CU {bits:Int} {l:List UInt8} {k:Nat} {x:Int} (he:(eW bits l).2=0) (hk:k=(eW bits l).1) (hx:x=CF (CB (qk (l.take k)) (l.take k)))
  (hs:(l.take k==ie x)=true) (hr:x/2^(bits.toNat - 1)=0\/x/2^(bits.toNat - 1)= -1):jb bits l=(x,k,0):=by
 obtain⟨h1,h2,_⟩:=iL he;have hs':l.take k=ie x:=by simpa using hs
 have hx1: -9223372036854775808 <=x/\x < 9223372036854775808:=by rw [hx];unfold CF;omega
 have hv:yx (l.take k)=x:=by rw [hs'];exact rS hx1.1 hx1.2
 rw [om,sE]at hr;have hp:(0:Int) < 2^(bits.toNat - 1):=Int.pow_pos (by omega);rw [jb,az (by rw [he];simp), <- hk,hv,aD ⟨hs'.symm,by omega,by omega⟩]
theorem zb {bits:Int} {l:List UInt8} {k:Nat} {x:Int} (he:(eW bits l).2=0) (hk:k=(eW bits l).1) (hx:x=CF (CB (qk (l.take k)) (l.take k)))
  (hs:(l.take k==ie x)=false\/¬ (x/2^(bits.toNat - 1)=0\/x/2^(bits.toNat - 1)= -1)):jb bits l=(0,0,1):=by
 obtain⟨h1,h2,_⟩:=iL he;rw [jb,az (by rw [he];simp), <- hk,az];rintro⟨h3,h4,h5⟩;have h6:(2:Int)^(bits.toNat - 1) <=9223372036854775808:=by
  have h7:(2:Nat)^(bits.toNat - 1) <=2^63:=cL (by omega) (by omega);have h8:((2^(bits.toNat - 1):Nat):Int) <=((2^63:Nat):Int):=Int.ofNat_le.2 h7;rw [Int.natCast_pow]at h8;exact h8
 have hv:x=yx (l.take k):=by
  rw [hx, <- yx];unfold CF;omega
 rcases hs with h | h
 ·rw [hv,h3,beq_self_eq_true]at h
  cases h
 ·apply h
  rw [om,sE,hv];omega
theorem FJ {s:Int} {l:List UInt8} {k j:Nat} {y:UInt8} (hy:l[j]?=some y) (hj:j < k):CB s ((l.take k).drop j)=(y.toNat %128:Nat)+128*CB s ((l.take k).drop (j+1)):=by
 have h:(l.take k)[j]?=some y:=by rw [cQ,aD hj];exact hy
 obtain⟨LD,he⟩:=aG.1 h;rw [cq LD,CB,he]
def SJ (l:List UInt8) (k:Nat) (w w':World) (x:Int) (i:Nat):Prop:=w'=w/\i <=k/\x=CF (CB (qk (l.take k)) ((l.take k).drop i))
theorem CW (b:Value) (l:List UInt8) (bits:Int) (w:World) (hb:eG w b l) (LG: -9223372036854775808 <=bits) (Lw:bits <=9223372036854775807):
  Calls prog 311 #[b, .int .i64 bits] w (Lh bits l w):=by
 by_cases he:(eW bits l).2=0
 ·obtain⟨k,hk⟩:∃k,k=(eW bits l).1:=⟨_,rfl⟩
  have HK:=V hk;have Qi:=V hb;obtain⟨LZ,MN,Oa,LH,Mz⟩:=iL he;have PC:1 <=k:=by omega
  have Mi:k <=l.length:=by omega
  have PN:k <=10:=by omega
  clear Oa LH Mz;obtain⟨a,cap,rfl,hl,hm,hc⟩:=hb;unfold maxLen at hm;have HC:=V hc;have HE:=V he;clear hc hk he;go_enter func311,ntmps311;go_wp2;refine jS 0 (fun a' w'=>∃(x:Int) (i:Nat) (u8 Rj QD Rk Rl Rm u16 Rn Ro Rp u20 u21 u22 u23 u24 u25 u26 u27 u28 u29 u30 u31 u32 u33 u34 u35 u36 u37 u38 u39 u40 u41 u42 u43 u44 u45 u46 u47 u48 u49 u50 u51 u52 u53 u54 u55 u56 u57 u58 u59 u60 u61 u62:Value),a'={tmps:=#[.slice a l.length cap, .int .i64 bits,undef,undef, .int .i64 0, .int .i64 0, .int .i64 0, .int .i64 k,u8, .int .i64 x, .int .i64 i,Rj,QD,Rk,Rl,Rm,u16,Rn,Ro,Rp,u20,u21,u22,u23,u24,u25,u26,u27,u28,u29,u30,u31,u32,u33,u34,u35,u36,u37,u38,u39,u40,u41,u42,u43,u44,u45,u46,u47,u48,u49,u50,u51,u52,u53,u54,u55,u56,u57,u58,u59,u60,u61,u62],defers:=[]}/\SJ l k w w' x i) (fun a' _=>(intOf (a'.tmps.getD 10 undef)).toNat) rfl ?_ ?_
  ·rintro a' w1 ⟨x,i,u8,Rj,QD,Rk,Rl,Rm,u16,Rn,Ro,Rp,u20,u21,u22,u23,u24,u25,u26,u27,u28,u29,u30,u31,u32,u33,u34,u35,u36,u37,u38,u39,u40,u41,u42,u43,u44,u45,u46,u47,u48,u49,u50,u51,u52,u53,u54,u55,u56,u57,u58,u59,u60,u61,u62,rfl,hJ⟩
   obtain⟨rfl,hik,hx⟩:=hJ;have HX:=V hx;clear hx;by_cases hi:i=0
   ·subst hi
    rw [List.drop_zero]at HX;have NQ: -9223372036854775808 <=x/\x <=9223372036854775807:=by rw [HX.out];unfold CF;omega
    have hbt:eG w1 (.slice a k cap) (l.take k):=Qi.out.take k Mi;have HBT:=V hbt;clear hbt;by_cases hs:(l.take k==ie x)=true
    ·by_cases hr:x/2^(bits.toNat - 1)=0
     ·have r1:=eI hr
      have r2:(x/2^(bits.toNat - 1) !=0)=false:=kX hr;have HR:=V hr;clear hr;have HS:=V hs;clear hs;go_wp2_with fail;refine ea (fun _=>True) (up 0 4 ((4,false)::(5,false)::up 6 9 [])) (by kernel_rfl) (by kernel_rfl) trivial ?_;iterate 4 (first | (apply sk rfl rfl;simp only [pt]) | (apply dV rfl rfl rfl;·(intro w' _;go_wp2;exact⟨rfl,rfl,rfl⟩)))
      refine dZ rfl rfl ?_;go_wp2_with (go_at_call 297;refine(mQ _ [] x NQ.1 NQ.2 w1.heap.size _ (ed.nil _ _) (by simp) (by simp)).mono ?_;rintro e w2 ⟨v2,rfl,L4,LH,LL⟩);have Lw:=fF (LH.below (ag _) (by intro i hi;cases hi));refine⟨trivial,?_⟩;refine dZ rfl rfl ?_;go_wp2_with (go_at_call 282;refine(lF _ _ (l.take k) (ie x) _ (HBT.out.below Lw) L4.gl).mono ?_;rintro e w3 ⟨rfl,rfl⟩;rw [HS.out]);refine⟨trivial,?_⟩;iterate 9 (first | (apply sk rfl rfl;simp only [pt]) | (apply dV rfl rfl rfl;·(intro w' _;go_wp2;exact⟨rfl,rfl,rfl⟩)))
      refine eF ?_;refine aA ?_;go_wp2;rw [iy]
      go_ret3
      refine⟨?_,Lw⟩;rw [CU HE.out HK.out HX.out HS.out (.inl HR.out)];rfl
     by_cases hr':x/2^(bits.toNat - 1)= -1
     ·have r1:=eI hr'
      have r2:(x/2^(bits.toNat - 1) !=0)=true:=fa hr;have r3:(x/2^(bits.toNat - 1) != -1)=false:=kX hr';have HR:=V hr';clear hr hr';have HS:=V hs;clear hs;go_wp2_with fail;refine ea (fun _=>True) (up 0 4 ((4,false)::(5,false)::up 6 9 [])) (by kernel_rfl) (by kernel_rfl) trivial ?_;iterate 4 (first | (apply sk rfl rfl;simp only [pt]) | (apply dV rfl rfl rfl;·(intro w' _;go_wp2;exact⟨rfl,rfl,rfl⟩)))
      refine dZ rfl rfl ?_;go_wp2_with (go_at_call 297;refine(mQ _ [] x NQ.1 NQ.2 w1.heap.size _ (ed.nil _ _) (by simp) (by simp)).mono ?_;rintro e w2 ⟨v2,rfl,L4,LH,LL⟩);have Lw:=fF (LH.below (ag _) (by intro i hi;cases hi));refine⟨trivial,?_⟩;refine dZ rfl rfl ?_;go_wp2_with (go_at_call 282;refine(lF _ _ (l.take k) (ie x) _ (HBT.out.below Lw) L4.gl).mono ?_;rintro e w3 ⟨rfl,rfl⟩;rw [HS.out]);refine⟨trivial,?_⟩;iterate 9 (first | (apply sk rfl rfl;simp only [pt]) | (apply dV rfl rfl rfl;·(intro w' _;go_wp2;exact⟨rfl,rfl,rfl⟩)))
      refine eF ?_;refine aA ?_;go_wp2;rw [iy]
      go_ret3
      refine⟨?_,Lw⟩;rw [CU HE.out HK.out HX.out HS.out (.inr HR.out)];rfl
     ·have r2:(x/2^(bits.toNat - 1) !=0)=true:=fa hr
      have r3:(x/2^(bits.toNat - 1) != -1)=true:=fa hr';have HR:=V hr;have HR':=V hr';clear hr hr';have HS:=V hs;clear hs;go_wp2_with fail;refine ea (fun _=>True) (up 0 4 ((4,false)::(5,false)::up 6 9 [])) (by kernel_rfl) (by kernel_rfl) trivial ?_;iterate 4 (first | (apply sk rfl rfl;simp only [pt]) | (apply dV rfl rfl rfl;·(intro w' _;go_wp2;exact⟨rfl,rfl,rfl⟩)))
      refine dZ rfl rfl ?_;go_wp2_with (go_at_call 297;refine(mQ _ [] x NQ.1 NQ.2 w1.heap.size _ (ed.nil _ _) (by simp) (by simp)).mono ?_;rintro e w2 ⟨v2,rfl,L4,LH,LL⟩);have Lw:=fF (LH.below (ag _) (by intro i hi;cases hi));refine⟨trivial,?_⟩;refine dZ rfl rfl ?_;go_wp2_with (go_at_call 282;refine(lF _ _ (l.take k) (ie x) _ (HBT.out.below Lw) L4.gl).mono ?_;rintro e w3 ⟨rfl,rfl⟩;rw [HS.out]);refine⟨trivial,?_⟩;iterate 9 (first | (apply sk rfl rfl;simp only [pt]) | (apply dV rfl rfl rfl;·(intro w' _;go_wp2;exact⟨rfl,rfl,rfl⟩)))
      refine eF ?_;refine aA ?_;go_wp2;rw [iy]
      go_ret3
      refine⟨?_,Lw⟩;rw [zb HE.out HK.out HX.out (.inr (fun h=>h.elim HR.out HR'.out))];rfl
    ·rw [Bool.not_eq_true]at hs
     have HS:=V hs;clear hs;go_wp2_with fail;refine ea (fun _=>True) (up 0 4 ((4,false)::(5,false)::up 6 9 [])) (by kernel_rfl) (by kernel_rfl) trivial ?_;iterate 4 (first | (apply sk rfl rfl;simp only [pt]) | (apply dV rfl rfl rfl;·(intro w' _;go_wp2;exact⟨rfl,rfl,rfl⟩)))
     refine dZ rfl rfl ?_;go_wp2_with (go_at_call 297;refine(mQ _ [] x NQ.1 NQ.2 w1.heap.size _ (ed.nil _ _) (by simp) (by simp)).mono ?_;rintro e w2 ⟨v2,rfl,L4,LH,LL⟩);have Lw:=fF (LH.below (ag _) (by intro i hi;cases hi));refine⟨trivial,?_⟩;refine dZ rfl rfl ?_;go_wp2_with (go_at_call 282;refine(lF _ _ (l.take k) (ie x) _ (HBT.out.below Lw) L4.gl).mono ?_;rintro e w3 ⟨rfl,rfl⟩;rw [HS.out]);refine⟨trivial,?_⟩;iterate 9 (first | (apply sk rfl rfl;simp only [pt]) | (apply dV rfl rfl rfl;·(intro w' _;go_wp2;exact⟨rfl,rfl,rfl⟩)))
     refine eF ?_;refine aA ?_;go_wp2;rw [iy]
     go_ret3
     refine⟨?_,Lw⟩;rw [zb HE.out HK.out HX.out (.inl HS.out)];rfl
   ·obtain⟨j,rfl⟩:∃j,i=j+1:=⟨i - 1,by omega⟩
    obtain⟨y,hy⟩:∃y,l[j]?=some y:=⟨_,aq (show j < l.length by omega)⟩;obtain⟨b,off,rfl,hc⟩:=HC.out j y hy;have hy8:=y.toNat_lt;have HY:=V hy;clear hy;have LD:j < l.length:=by omega
    go_wp2_with fail
    go_step3
    simp only [Exit.then];rw [JK x y.toNat hy8];refine lk ⟨_,j,_,_,_,_,_,_,_,_,_,_,_,_,_,_,_,_,_,_,_,_,_,_,_,_,_,_,_,_,_,_,_,_,_,_,_,_,_,_,_,_,_,_,_,_,_,_,_,_,_,_,_,_,_,rfl,rfl,by omega,?_⟩ ?_
    ·rw [FJ HY.out (by omega),HX.out,Ev]
    ·simp [intOf]
  ·intro H
   have Hh:=V H;clear H;obtain⟨y,hy⟩:∃y,l[k - 1]?=some y:=⟨_,aq (show k - 1 < l.length by omega)⟩;obtain⟨b,off,rfl,hc⟩:=HC.out (k - 1) y hy;obtain⟨j,rfl⟩:∃j,k=j+1:=⟨k - 1,by omega⟩;rw [de]at hc;have hy8:=y.toNat_lt;have HY:=V hy;clear hy;have Ny:=zu y.toNat hy8;have HB6:=V Ny;clear Ny;rcases bx (y.toNat %128) 64 with hy6 | hy6
   ·have r1:(Go.bits .and .u8 (y.toNat:Int) 64 !=0)=false:=by rw [HB6.out,aD hy6];rfl
    go_wp2_with (go_at_call 281;refine(mD _ l _ _ Qi.out (by omega) (by omega)).mono ?_;rintro e w' ⟨rfl,rfl⟩;rw [HE.out, <- HK.out])
    go_step3
    go_step
    go_step
    refine Hh.out _ _ ⟨_,j+1,_,_,_,_,_,_,_,_,_,_,_,_,_,_,_,_,_,_,_,_,_,_,_,_,_,_,_,_,_,_,_,_,_,_,_,_,_,_,_,_,_,_,_,_,_,_,_,_,_,_,_,_,_,rfl,rfl,ag _,?_⟩;rw [List.drop_eq_nil_of_le (by rw [aP];omega),CB,zS (j:=j) HY.out,aD hy6];rfl
   ·have r1:(Go.bits .and .u8 (y.toNat:Int) 64 !=0)=true:=by rw [HB6.out,az (by omega)];rfl
    go_wp2_with (go_at_call 281;refine(mD _ l _ _ Qi.out (by omega) (by omega)).mono ?_;rintro e w' ⟨rfl,rfl⟩;rw [HE.out, <- HK.out])
    go_step3
    go_step
    go_step
    refine Hh.out _ _ ⟨_,j+1,_,_,_,_,_,_,_,_,_,_,_,_,_,_,_,_,_,_,_,_,_,_,_,_,_,_,_,_,_,_,_,_,_,_,_,_,_,_,_,_,_,_,_,_,_,_,_,_,_,_,_,_,_,rfl,rfl,ag _,?_⟩;rw [List.drop_eq_nil_of_le (by rw [aP];omega),CB,zS (j:=j) HY.out,az (by omega)];rfl
 ·have HE:=V he
  have Qi:=V hb;have HB:=V (dR he);clear he hb;go_enter func311,ntmps311;go_wp2
  go_step3
  go_wp2_with (go_at_call 281;refine(mD _ l _ _ Qi.out (by omega) (by omega)).mono ?_;rintro e w' ⟨rfl,rfl⟩;have hb:=HB.out);rw [Exit.noGoto_ret]
  go_ret3
  refine⟨?_,an _ _⟩;rw [jb,aD HE.out];rfl
structure eX where
 kind:Int
 n:Int
deriving DecidableEq
def fD (v:eX):List Value:=[.int .i64 v.kind, .int .i64 v.n]
theorem fI (v:eX):(fD v).length=2:=rfl
theorem lD (v:eX):∀u∈fD v,u.oneCell'=true:=by
 intro u hu;simp only [fD,bH,bP,da]at hu;rcases hu with rfl | rfl <;>rfl
def eX.ok (v:eX):Prop:=(-9223372036854775808 <=v.kind/\v.kind <=9223372036854775807)/\(-9223372036854775808 <=v.n/\v.n <=9223372036854775807)
def eX.may (v:eX):Prop:=v.kind=2\/v.kind=1/\ -2147483648 <=v.n/\v.n <=2147483647
instance (v:eX):Decidable v.may:=by unfold eX.may;infer_instance
def ew (b:Bool) (w:World) (e:Ending) (w':World):Prop:=e= .returned (.bool b)/\Below w.heap.size w w'
theorem lK (v:eX) (w:World):Calls prog 47 #[.agg #[.int .i64 v.kind, .int .i64 v.n]] w (ew (decide v.may) w):=by
 by_cases q0:v.kind=2
 ·have f0:=eI q0
  have Q0:=V q0;clear q0;rw [show decide v.may=true from ay (.inl Q0.out)];go_enter func47,ntmps47;go_wp2;go_ret;exact⟨rfl,(an _ _).alloc (ag _) _⟩
 have f0:=dR q0;by_cases q1:v.kind=1
 ·have f1:=eI q1
  by_cases q2: -2147483648 <=v.n
  ·have f2:decide (-2147483648 <=v.n)=true:=ay q2
   by_cases q3:v.n <=2147483647
   ·have f3:decide (v.n <=2147483647)=true:=ay (by omega)
    have Q1:=V q1;clear q1 q0;rw [show decide v.may=true from ay (.inr ⟨Q1.out,q2,q3⟩)];go_enter func47,ntmps47;go_wp2;go_ret;exact⟨rfl,(an _ _).alloc (ag _) _⟩
   ·have f3:decide (v.n <=2147483647)=false:=aw (by omega)
    have Q0:=V q0;clear q0 q1;rw [show decide v.may=false from aw (fun h=>h.elim Q0.out (fun h=>q3 h.2.2))];go_enter func47,ntmps47;go_wp2;go_ret;exact⟨rfl,(an _ _).alloc (ag _) _⟩
  ·have f2:decide (-2147483648 <=v.n)=false:=aw q2
   have Q0:=V q0;clear q0 q1;rw [show decide v.may=false from aw (fun h=>h.elim Q0.out (fun h=>q2 h.2.1))];go_enter func47,ntmps47;go_wp2;go_ret;exact⟨rfl,(an _ _).alloc (ag _) _⟩
 ·have f1:=dR q1
  have Q0:=V q0;have Q1:=V q1;clear q0 q1;rw [show decide v.may=false from aw (fun h=>h.elim Q0.out (fun h=>Q1.out h.1))];go_enter func47,ntmps47;go_wp2;go_ret;exact⟨rfl,(an _ _).alloc (ag _) _⟩
def sU {α:Type} (p:α ->Bool) (l:List α):Int:=match l.findIdx? p with | some i=>i | none=> -1
theorem ic {α:Type} {p:α ->Bool} {l:List α} {k:Nat} {e:α} (he:l[k]?=some e) (hn:p e=true) (hb:∀i,i < k ->∀d,l[i]?=some d ->p d=false):sU p l=k:=by
 obtain⟨hk,rfl⟩:=aG.1 he;have:l.findIdx? p=some k:=by
  rw [List.findIdx?_eq_some_iff_getElem];refine⟨hk,hn,fun j hj=>?_⟩;rw [hb j hj _ (aq (by omega))];simp
 rw [sU,this]
theorem gJ {α:Type} {p:α ->Bool} {l:List α} (hb:∀i,i < l.length ->∀d,l[i]?=some d ->p d=false):sU p l= -1:=by
 have:l.findIdx? p=none:=by
  rw [List.findIdx?_eq_none_iff];intro x hx;obtain⟨i,hi⟩:=List.mem_iff_getElem?.1 hx;exact hb i (aG.1 hi).1 x hi
 rw [sU,this]
theorem ir {α:Type} (p:α ->Bool) (l:List α):decide (0 <=sU p l)=l.any p:=by
 unfold sU;cases h:l.findIdx? p with
 | none=>
  rw [List.findIdx?_eq_none_iff]at h;have:l.any p=false:=by rw [dy];intro x hx;rw [h x hx];simp
  rw [this];rfl
 | some i=>
  rw [List.findIdx?_eq_some_iff_getElem]at h;obtain⟨hi,h1,_⟩:=h;have:l.any p=true:=List.any_eq_true.2 ⟨_,List.getElem_mem hi,h1⟩;rw [this];exact ay (by show(0:Int) <=(i:Int);omega)
def jM {α:Type} (p:α ->Bool) (l:List α) (w:World) (e:Ending) (w':World):Prop:=e= .returned (.int .i64 (sU p l))/\Below w.heap.size w w'
def pR {α:Type} (p:α ->Bool) (l:List α) (w w':World) (k:Nat):Prop:=k <=l.length/\(∀i,i < k ->∀d,l[i]?=some d ->p d=false)/\Below w.heap.size w w'
def gU (xs ys:List UInt8) (B:Nat) (b:Value) (w:World) (e:Ending) (w':World):Prop:=
 ∃v',e= .returned v'/\ed w' B v' (xs++ys)/\dU (ez b) w w'/\eB w b v'
theorem lA (b:Value) (xs:List UInt8) (u:Nat) (h1:u <=9223372036854775807) (B:Nat) (w:World) (Lu:ed w B b xs) (hn:xs.length <=1000000000) (hB:B <=w.heap.size):
  Calls prog 243 #[b, .int .i64 u] w (gU xs (eO u) B b w):=by
 go_enter func243,ntmps243;go_wp2_with fail;refine(iP b xs u (by omega) B w Lu hn hB).mono ?_;rintro x w2 ⟨v,rfl,h2,h3,h4⟩;go_wp2;go_ret;exact⟨v,rfl,h2,h3,h4⟩
def rH (v:eX):List UInt8:=eO v.kind.toNat++ie v.n
def jx (l:List eX):List UInt8:=eO l.length++(l.map rH).flatten
theorem ug {n:Int} (h1: -9223372036854775808 <=n) (h2:n <=9223372036854775807):1 <=(ie n).length/\(ie n).length <=10:=by
 obtain⟨p,z,e1,_,_,e4⟩:=oQ 9 n (by omega) (by omega);change ie n=p++[z]at e1;rw [e1];simp;omega
theorem Fi {v:eX} (h:v.ok):(rH v).length <=20:=by
 have h1:=(eL v.kind.toNat).2;have h2:=(ug h.2.1 h.2.2).2;rw [rH,ah];omega
theorem nE:∀l:List eX,(∀v∈l,v.ok) ->((l.map rH).flatten).length <=20*l.length
 | [],_=>by simp
 | v::l,h=>by
  have h1:=Fi (h v (by simp));have h2:=nE l (fun x hx=>h x (by simp [hx]));simp only [bF,bQ,ah,aE];omega
def Ke (xs:List UInt8) (l:List eX) (B:Nat) (b:Value) (w w':World) (v:Value) (k:Nat):Prop:=
 k <=l.length/\ed w' B v (xs++(eO l.length++((l.take k).map rH).flatten))/\dU (ez b) w w'/\eB w b v
theorem sz (b:Value) (xs:List UInt8) (vl:Value) (l:List eX) (B:Nat) (w:World) (Lu:ed w B b xs) (hn:xs.length <=100000) (hB:B <=w.heap.size)
  (hl:ee 2 fD w vl l) (hm:∀v∈l,v.may) (LF:∀v∈l,v.ok) (OV:l.length <=1000) (hvb:l≠[] ->∀i,ez b i ->∀a n c,vl= .slice (some a) n c ->a.block≠i):
  Calls prog 244 #[b,vl] w (gU xs (jx l) B b w):=by
 have HI:=V hl;have Mv:=V LF;have HM:=V hm;have HVB:=V hvb;obtain⟨a,cap,rfl,h1,h2,_⟩:=hl;unfold maxLen at h2;clear LF hm hvb;go_enter func244,ntmps244;go_wp2_with fail;refine(lA b xs l.length (by omega) B w Lu (by omega) hB).mono ?_;rintro x w1 ⟨v,rfl,ho,hk,hs⟩;go_wp2_with fail;refine eC (fun a' w'=>∃(v:Value) (k:Nat),a'=fr (v:: .slice a l.length cap::gs a' 2 9 (.slice a l.length cap:: .int .i64 l.length:: .int .i64 k::gs a' 14 12 []))/\Ke xs l B b w w' v k) (fun a' _=>(l.length - (intOf (a'.tmps.getD 13 undef)).toNat)) ?_ ?_
 ·exact⟨v,0,rfl,by omega,by simpa using ho,hk,hs⟩
 ·clear ho hk hs
  rintro R a' w1 ⟨v,k,Lv,hJ⟩ HR;dsimp only [fr,gs]at Lv;generalize slot a'=f at Lv;subst Lv;obtain⟨Mi,ho,hk,hs⟩:=hJ;have Mq:=hk.size;by_cases LD:k < l.length
  ·obtain⟨e,he⟩:∃e,l[k]?=some e:=⟨_,aq LD⟩
   obtain⟨a',LQ,hv,_,_,Lt⟩:=HI.out;injection hv with e1 e2 e3;subst e1 e3;obtain⟨bb,off,rfl,Nf,hc⟩:=Lt k e he;have MO:¬ ez b bb:=fun h=>HVB.out (by rintro rfl;simp at LD) bb h _ _ _ rfl rfl;have Mj:∀j u,(fD e)[j]?=some u ->w1.cell? ⟨bb,off+k*2+j,none⟩=some u:=fun j u hu=>by
    rw [aX (w:=w) (a:=⟨bb,off+k*2+j,none⟩) (hk.block bb Nf MO)];exact hc j u hu
   have c0:=Mj 0 _ rfl;have c1:=Mj 1 _ rfl;rw [aI]at c0;have hme:=HM.out e (aN he);obtain⟨⟨m1,m2⟩,m3,m4⟩:=Mv.out e (aN he);obtain⟨n0,OW⟩:∃n:Nat,e.kind=n:=⟨e.kind.toNat,by rcases hme with h | h <;>omega⟩;have hn2:n0 <=2:=by rcases hme with h | h <;>omega
   rw [OW]at m1 m2 c0;have hlen:(xs++(eO l.length++((l.take k).map rH).flatten)).length <=200000:=by
    have g1:=(eL l.length).2;have g2:=nE (l.take k) (fun x hx=>Mv.out x (cC hx));have g3:(l.take k).length <=1000:=by rw [aP];omega
    simp only [ah];omega
   have HV:=V (show rH e=eO n0++ie e.n by rw [rH,OW];rfl);have HE:=V he;generalize hL:xs++(eO l.length++((l.take k).map rH).flatten)=L at ho hlen;have HL:=V hL;clear hL Lt hc Mj e2 he hme OW;have Np:∀i,ez v i ->i≠w1.heap.size:=fun i hi=>by have:=(ey ho hi).2;omega
   have HX0:=V Np;clear Np;go_wp2_with fail;refine ea (fun w'=>w'.cell? ⟨w1.heap.size,0,none⟩=some (.int .i64 n0)/\w'.cell? ⟨w1.heap.size,1,none⟩=some (.int .i64 e.n)) (up 0 3 ((4,true)::(5,true)::(3,false)::(6,false)::(7,true)::[])) (by kernel_rfl) (by kernel_rfl) ⟨by simp,by simp⟩ ?_;iterate 5 (first | (apply sk rfl rfl;simp only [pt]) | (apply dV rfl rfl rfl;·(rintro w' ⟨t0,t1⟩;go_wp2;exact⟨rfl,rfl,rfl⟩)))
   refine dZ rfl rfl ?_;go_wp2_with fail;have Oa:dU (ez v) w1 (w1.alloc (.cells #[.int .i64 n0, .int .i64 e.n] 52)).drew:=((dU.refl _ _).alloc _).drew;have MI:eD (w1.alloc (.cells #[.int .i64 n0, .int .i64 e.n] 52)).drew w1.heap.size #[.int .i64 n0, .int .i64 e.n] 52:=(eD.new w1 _ _).drew;refine(lA v L n0 (by omega) B _ (ho.keeps (((dU.refl (fun _=>False) w1).alloc _).drew) (fun _ _ h=>h)) (by omega) (by simp;have:=(dU.refl (ez v) w1);omega)).mono ?_;rintro x w2 ⟨v2,rfl,L4,LH,LL⟩;have NR:=MI.keeps LH (fun h=>HX0.out _ h rfl);have hn1:(eO n0).length <=10:=(eL _).2;go_wp2_with fail;refine⟨⟨NR.cell 0,NR.cell 1⟩,?_⟩;refine dZ rfl rfl ?_;have OB:=LH.size;simp only [World.size_drew,aC]at OB;go_wp2_with fail;refine(mQ v2 _ e.n m3 m4 B w2 L4 (by simp only [ah];omega) (by omega)).mono ?_;rintro x w3 ⟨v3,rfl,Nl,Mz,N4⟩;have Qj:=NR.keeps Mz (fun h=>by
    rcases LL _ h with g | g
    ·exact HX0.out _ g rfl
    ·simp at g
     omega)
   have QK:dU (ez v) w1 w2:=Oa.trans LH (fun i h=> .inl h);have hs12:eB w1 v v2:=fun i hi=>(LL i hi).imp id (fun g=>by simp at g;omega);have QL:dU (ez v) w1 w3:=QK.trans Mz (fun i h=>(hs12 i h));have hs13:eB w1 v v3:=hs12.trans N4 QK.size;have hkf:dU (ez b) w w3:=hk.trans QL (fun i h=>(hs i h));have hsf:eB w b v3:=hs.trans hs13 hk.size;clear LH LL Mz N4 QK hs12 QL hs13 Oa MI NR;go_wp2_with fail;refine⟨⟨Qj.cell 0,Qj.cell 1⟩,?_⟩;iterate 1 (first | (apply sk rfl rfl;simp only [pt]) | (apply dV rfl rfl rfl;·(rintro w' ⟨t0,t1⟩;go_wp2;exact⟨rfl,rfl,rfl⟩)))
   refine eF ?_;refine aA ?_;go_wp2;refine HR.out _ _ ⟨v3,k+1,rfl,by omega,?_,hkf,hsf⟩ ?_
   ·have e1:xs++(eO l.length++((l.take (k+1)).map rH).flatten)=L++eO n0++ie e.n:=by
     rw [<- HL.out,aR,HE.out];simp [HV.out]
    rw [e1];exact Nl
   ·simp [intOf]
    omega
  ·obtain rfl:k=l.length:=by omega
   go_wp2;go_ret;refine⟨v,rfl,?_,hk,hs⟩;rw [aU]at ho;exact ho
theorem BS (u:Nat) (rest:List UInt8) (hu:u < 4611686018427387904):gZ 62 (eO u++rest)=(u,(eO u).length,0):=by
 obtain⟨p,z,h1,h2,h3,h4⟩:=rG 9 u (by omega);change eO u=p++[z]at h1;have hp:p.length <=8:=by
  rcases rV 10 u (by omega)with h | h
  ·change(eO u).length <=1 at h
   rw [h1]at h;simp at h;simp [h]
  ·change 128^((eO u).length - 1) <=u at h
   rw [h1,ah,aB,de]at h;rcases bx 8 p.length with g | g
   ·have:(128:Nat)^9 <=128^p.length:=cL (by omega) g
    omega
   ·exact g
 have hl:eW 62 (eO u++rest)=((eO u).length,0):=by
  rw [h1,aK,dA];unfold eW;rw [az (by omega),nO p z rest h2 h3,az (by omega),az (by simp)];simp
 unfold gZ;rw [hl,az (by simp)];have ht:(eO u++rest).take (eO u).length=eO u:=cJ;simp only [ht];rw [sf (by omega),aD ⟨rfl,by simpa using hu⟩]
theorem rN {l:List UInt8} (h:(gZ 62 l).2.2=0):∃u rest,u < 4611686018427387904/\l=eO u++rest/\gZ 62 l=(u,(eO u).length,0):=by
 unfold gZ at h⊢;by_cases h1:(eW 62 l).2≠0
 ·rw [aD h1]at h
  exact absurd h h1
 ·rw [az h1]at h⊢
  by_cases h2:eO (ou (l.take (eW 62 l).1))=l.take (eW 62 l).1/\ou (l.take (eW 62 l).1) < 2^(62:Int).toNat
  ·rw [aD h2]
   obtain⟨_,_,k1,k2,_⟩:=iL (dz.1 h1);refine⟨_,l.drop (eW 62 l).1,by simpa using h2.2,by rw [h2.1,cB],?_⟩;rw [h2.1,aP,cm (by omega)]
  ·rw [az h2]at h
   cases h
theorem tM (n:Int) (rest:List UInt8) (h0: -9223372036854775808 <=n) (h1:n <=9223372036854775807):jb 64 (ie n++rest)=(n,(ie n).length,0):=by
 obtain⟨p,z,e1,e2,e3,e4⟩:=oQ 9 n (by omega) (by omega);change ie n=p++[z]at e1;have hl:eW 64 (ie n++rest)=((ie n).length,0):=by
  rw [e1,aK,dA];unfold eW;rw [az (by omega),nO p z rest e2 e3,az (by omega),az (by simp)];simp
 unfold jb;rw [hl,az (by simp)];have ht:(ie n++rest).take (ie n).length=ie n:=cJ;simp only [ht];have h2:n < 9223372036854775808:=by omega
 rw [rS h0 h2,aD ⟨rfl,h0,h2⟩]
theorem xd {l:List UInt8} (h:(jb 64 l).2.2=0):∃(n:Int) (rest:List UInt8),(-9223372036854775808 <=n/\n <=9223372036854775807)/\l=ie n++rest/\jb 64 l=(n,(ie n).length,0):=by
 unfold jb at h⊢;by_cases h1:(eW 64 l).2≠0
 ·rw [aD h1]at h
  exact absurd h h1
 ·rw [az h1]at h⊢
  split at h
  ·rename_i h2
   rw [aD h2];obtain⟨_,_,k1,k2,_⟩:=iL (dz.1 h1);refine⟨_,l.drop (eW 64 l).1,?_,by rw [h2.1,cB],?_⟩
   ·have:=h2.2
    simp at this;omega
   ·rw [h2.1,aP,cm (by omega)]
  ·cases h
def fB:Option (List UInt8) ->Nat × Option (List UInt8)
 | none=>(0,none)
 | some l=>if(gZ 62 l).2.2=0 then((gZ 62 l).1,some (l.drop (gZ 62 l).2.1))else(0,none)
def nn:Option (List UInt8) ->Int × Option (List UInt8)
 | none=>(0,none)
 | some l=>if(jb 64 l).2.2=0 then((jb 64 l).1,some (l.drop (jb 64 l).2.1))else(0,none)
theorem xk (l:List UInt8):fB (some l)=if(gZ 62 l).2.2=0 then((gZ 62 l).1,some (l.drop (gZ 62 l).2.1))else(0,none):=rfl
theorem wZ (l:List UInt8):nn (some l)=if(jb 64 l).2.2=0 then((jb 64 l).1,some (l.drop (jb 64 l).2.1))else(0,none):=rfl
theorem jU (u:Nat) (r:List UInt8) (hu:u < 4611686018427387904):fB (some (eO u++r))=(u,some r):=by
 simp only [fB,BS u r hu,cO,cZ]
theorem G0 (n:Int) (r:List UInt8) (h0: -9223372036854775808 <=n) (h1:n <=9223372036854775807):nn (some (ie n++r))=(n,some r):=by
 simp only [nn,tM n r h0 h1,cO,cZ]
def oF:Option (List UInt8) ->Nat
 | none=>0
 | some l=>l.length+1
theorem sZ (l:List UInt8):oF (fB (some l)).2+1 <=oF (some l):=by
 rw [xk];split
 ·rename_i h
  obtain⟨u,r,_,hl,hr⟩:=rN h;have:=(eL u).1;have h2:=cU List.length hl;rw [ah]at h2;simp only [hr,oF,bg];omega
 ·simp [oF]
theorem mB (st:Option (List UInt8)):oF (fB st).2 <=oF st:=by
 cases st with
 | none=>simp [fB]
 | some l=>have:=sZ l;omega
theorem H8 (st:Option (List UInt8)):oF (nn st).2 <=oF st:=by
 cases st with
 | none=>simp [nn]
 | some l=>
  rw [wZ];split
  ·simp only [oF,bg]
   omega
  ·simp [oF]
theorem lp (st:Option (List UInt8)):(fB st).1 < 4611686018427387904:=by
 cases st with
 | none=>simp [fB]
 | some l=>
  rw [xk];split
  ·rename_i h
   obtain⟨u,r,hu,_,hr⟩:=rN h;simp only [hr];exact hu
  ·simp
theorem He (st:Option (List UInt8)): -9223372036854775808 <=(nn st).1/\(nn st).1 <=9223372036854775807:=by
 cases st with
 | none=>simp [nn]
 | some l=>
  rw [wZ];split
  ·rename_i h
   obtain⟨n,r,hn,_,hr⟩:=xd h;simp only [hr];exact hn
  ·simp
def Rd (B0:Nat) (w:World) (R:Nat) (st:Option (List UInt8)):Prop:=
 ∃a n cap,eD w R #[.slice a n cap, .bool st.isNone] 302/\∃l,(l≠[] ->∀ad,a=some ad ->ad.block < B0)/\eG w (.slice a n cap) l/\∀l',st=some l' ->l'=l
theorem nY {L p q:List UInt8} (hL:L=p++q) (a:Option Addr) (cap:Nat):∃a2 LA,
  (∀wx,(Instr.slice 104 (.slice a L.length cap) (some (.int .i64 p.length)) none none).run prog wx= .ok (.slice a2 q.length LA) wx)/\
  (∀wy,eG wy (.slice a L.length cap) L ->eG wy (.slice a2 q.length LA) q)/\∀ad,a2=some ad ->∃ad0,a=some ad0/\ad.block=ad0.block:=by
 have hle:p.length <=L.length:=by rw [hL];simp
 have hd:L.drop p.length=q:=by rw [hL];exact cZ
 have hl:L.length - p.length=q.length:=by rw [hL];simp
 refine⟨if cap=p.length then a else a.map (·.add (p.length*1)),cap - p.length,fun wx=>?_,fun wy h=>?_,fun ad h=>?_⟩
 ·rw [oX a L.length cap p.length hle wx,sliceFrom,hl]
 ·have:=h.drop p.length hle
  rw [hd,sliceFrom,hl]at this;exact this
 ·split at h
  ·exact⟨ad,h,rfl⟩
  ·cases a with
   | none=>cases h
   | some a0=>
    injection h with h;subst h;refine⟨a0,rfl,?_⟩;unfold Addr.add;split <;>rfl
theorem eG.off {w w':World} {v:Value} {l:List UInt8} {R:Nat} {a:Option Addr} {n cap:Nat} {b:Bool} {t:TypeId} (h:eG w v l) (hb:eD w R #[.slice a n cap, .bool b] t) (hk:dU (fun i=>i=R) w w'):eG w' v l:=by
 obtain⟨a',LQ,hv,h1,h2,h3⟩:=h;refine⟨a',LQ,hv,h1,h2,fun i x hx=>?_⟩;obtain⟨g,off,ha,hc⟩:=h3 i x hx;refine⟨g,off,ha,?_⟩;have LD:=aO w _ hc;have MO:g≠R:=by
  rintro rfl;have MV:=hb.cell (off+i);rw [hc]at MV
  match off+i,MV with
  | 0,MV=>simp at MV
  | 1,MV=>simp at MV
  | n+2,MV=>simp at MV
 rw [aX (w:=w) (a:=⟨g,off+i,none⟩) (hk.block g LD MO)];exact hc
theorem Rd.below {B0:Nat} {w w':World} {R:Nat} {st:Option (List UInt8)} (h:Rd B0 w R st) (hk:Below w.heap.size w w'):Rd B0 w' R st:=by
 obtain⟨a,n,cap,hb,l,hB,hl,hs⟩:=h;exact⟨a,n,cap,hb.below hk hb.lt,l,hB,hl.below hk,hs⟩
theorem Rd.keeps {B0:Nat} {w w':World} {R:Nat} {st:Option (List UInt8)} {S:Nat ->Prop} (h:Rd B0 w R st) (hk:dU S w w') (hR:¬ S R) (hS:∀i,S i ->B0 <=i):Rd B0 w' R st:=by
 obtain⟨a,n,cap,hb,l,hB,⟨a',LQ,hv,h1,h2,h3⟩,hs⟩:=h;injection hv with e1 e2 e3;subst e1 e2 e3;refine⟨a,_,cap,hb.keeps hk hR,l,hB,⟨a,cap,rfl,h1,h2,fun i x hx=>?_⟩,hs⟩;obtain⟨b,off,ha,hc⟩:=h3 i x hx;refine⟨b,off,ha,?_⟩;have LD:=aO w _ hc;have LR:b < B0:=hB (by rintro rfl;simp at hx) _ ha;rw [aX (w:=w) (a:=⟨b,off+i,none⟩) (hk.block b LD (fun h=>by have:=hS b h;omega))];exact hc
theorem sT {w:World} {R:Nat} (i:Nat) (v:Value):dU (fun k=>k=R) w (w.setCell ⟨R,i,none⟩ v):=
 ⟨rfl,rfl,rfl,by simp,fun k _ hk=>cH w ⟨R,i,none⟩ v k hk⟩
def JL (B0 R:Nat) (st:Option (List UInt8)) (w:World) (e:Ending) (w':World):Prop:=
 e= .returned (.int .i64 (fB st).1)/\Rd B0 w' R (fB st).2/\dU (fun k=>k=R) w w'
def Jx (B0 R:Nat) (st:Option (List UInt8)) (w:World) (e:Ending) (w':World):Prop:=
 e= .returned (.int .i64 (nn st).1)/\Rd B0 w' R (nn st).2/\dU (fun k=>k=R) w w'
theorem jW (B0 R:Nat) (st:Option (List UInt8)) (w:World) (hr:Rd B0 w R st):Calls prog 242 #[.pointer (some ⟨R,0,none⟩)] w (JL B0 R st w):=by
 obtain⟨a,n,cap,LN,l,hB0,hl,LS⟩:=hr;obtain⟨a',LQ,hv,h1,h2,_⟩:=id hl;injection hv with e1 e2 e3;subst e1 e2 e3;unfold maxLen at h2;have hRl:=LN.lt;have c0:w.cell? ⟨R,0,none⟩=some (.slice a l.length cap):=LN.cell 0;have c1:w.cell? ⟨R,1,none⟩=some (.bool st.isNone):=LN.cell 1;have MA:=V LN;have HL:=V hl;have HS:=V LS;have PD:=V hB0;clear LN hl LS hB0;cases st with
 | none=>
  go_enter func242,ntmps242;go_wp2_with fail;refine(uy _ l 62 _ HL.out (by omega) (by omega)).mono ?_;rintro x w1 ⟨rfl,hb⟩;have LN:=MA.out.below hb hRl;have hl:=HL.out.below hb;have z0:=LN.free 0;have z1:=LN.free 1;have c0:w1.cell? ⟨R,0,none⟩=some (.slice a l.length cap):=LN.cell 0;have c1:w1.cell? ⟨R,1,none⟩=some (.bool true):=LN.cell 1;have NB:=V LN;have QM:=V hl;clear LN hl;go_wp2;go_ret;have LG:=NB.out.set 1 (.bool true);refine⟨rfl,⟨a,l.length,cap,by have h:=LG;simp at h;exact h,l,PD.out,QM.out.off NB.out (sT _ _),fun l' h=>by cases h⟩,(dU.dW hb).trans (sT _ _) (fun i h=> .inl h)⟩
 | some l0=>
  obtain rfl:=HS.out l0 rfl;by_cases hu:(gZ 62 l0).2.2=0
  ·obtain⟨u,r,hu1,Rq,L6⟩:=rN hu
   obtain⟨a3,MP,QN,hi3,hi4⟩:=nY Rq a cap;have hle:=cU List.length Rq;rw [ah]at hle;have hle2:(eO u).length <=l0.length:=by omega
   have HI3:=V hi3;have HR:=V (show fB (some l0)=(u,some r)by simp only [fB,L6,cO,Prod.mk.injEq,true_and,aS];rw [Rq];exact cZ);have HI4:=V hi4;have Qk:=V Rq;clear hi3 hi4 hu hle Rq;go_enter func242,ntmps242;go_wp2_with fail;refine(uy _ l0 62 _ HL.out (by omega) (by omega)).mono ?_;rintro x w1 ⟨rfl,hb⟩;rw [L6];have LN:=MA.out.below hb hRl;have hl:=HL.out.below hb;have z0:=LN.free 0;have z1:=LN.free 1;have c0:w1.cell? ⟨R,0,none⟩=some (.slice a l0.length cap):=LN.cell 0;have c1:w1.cell? ⟨R,1,none⟩=some (.bool false):=LN.cell 1;have NB:=V LN;have QM:=V hl;clear LN hl L6;go_wp2;go_ret;have LG:=(NB.out.set 1 (.bool false)).set 0 (.slice a3 r.length MP);have M7:dU (fun k=>k=R) w1 ((w1.setCell ⟨R,1,none⟩ (.bool false)).setCell ⟨R,0,none⟩ (.slice a3 r.length MP)):=(sT 1 _).trans (sT 0 _) (fun i h=> .inl h);refine⟨by rw [HR.out];rfl,?_,(dU.dW hb).trans M7 (fun i h=> .inl h)⟩;rw [HR.out];exact⟨a3,r.length,MP,by simpa using LG,r,fun MO ad h=>(by obtain⟨ad0,g1,g2⟩:=HI4.out ad h;rw [g2];exact PD.out (by rw [Qk.out];intro g;exact MO (List.append_eq_nil_iff.1 g).2) _ g1),(HI3.out _ QM.out).off NB.out M7,fun l' h=>by injection h with h;exact h.symm⟩
  ·have HR:=V (show fB (some l0)=(0,none)by simp only [fB];rw [az hu])
   obtain⟨x,k,err,hr⟩:∃x k err,gZ 62 l0=(x,k,err):=⟨_,_,_,rfl⟩;have f1:(err !=0)=true:=fa (fun h=>hu (by rw [hr];exact h));clear hu;go_enter func242,ntmps242;go_wp2_with fail;refine(uy _ l0 62 _ HL.out (by omega) (by omega)).mono ?_;rintro x w1 ⟨rfl,hb⟩;rw [hr];have LN:=MA.out.below hb hRl;have hl:=HL.out.below hb;have z0:=LN.free 0;have z1:=LN.free 1;have c0:w1.cell? ⟨R,0,none⟩=some (.slice a l0.length cap):=LN.cell 0;have c1:w1.cell? ⟨R,1,none⟩=some (.bool false):=LN.cell 1;have NB:=V LN;have QM:=V hl;clear LN hl hr;go_wp2;go_ret;have LG:=NB.out.set 1 (.bool true);refine⟨by rw [HR.out];rfl,?_,(dU.dW hb).trans (sT _ _) (fun i h=> .inl h)⟩;rw [HR.out];exact⟨a,l0.length,cap,by simpa using LG,l0,PD.out,QM.out.off NB.out (sT _ _),fun l' h=>by cases h⟩
theorem G8 (B0 R:Nat) (st:Option (List UInt8)) (w:World) (hr:Rd B0 w R st):Calls prog 296 #[.pointer (some ⟨R,0,none⟩)] w (Jx B0 R st w):=by
 obtain⟨a,n,cap,LN,l,hB0,hl,LS⟩:=hr;obtain⟨a',LQ,hv,h1,h2,_⟩:=id hl;injection hv with e1 e2 e3;subst e1 e2 e3;unfold maxLen at h2;have hRl:=LN.lt;have c0:w.cell? ⟨R,0,none⟩=some (.slice a l.length cap):=LN.cell 0;have c1:w.cell? ⟨R,1,none⟩=some (.bool st.isNone):=LN.cell 1;have MA:=V LN;have HL:=V hl;have HS:=V LS;have PD:=V hB0;clear LN hl LS hB0;cases st with
 | none=>
  go_enter func296,ntmps296;go_wp2_with fail;refine(CW _ l 64 _ HL.out (by omega) (by omega)).mono ?_;rintro x w1 ⟨rfl,hb⟩;have LN:=MA.out.below hb hRl;have hl:=HL.out.below hb;have z0:=LN.free 0;have z1:=LN.free 1;have c0:w1.cell? ⟨R,0,none⟩=some (.slice a l.length cap):=LN.cell 0;have c1:w1.cell? ⟨R,1,none⟩=some (.bool true):=LN.cell 1;have NB:=V LN;have QM:=V hl;clear LN hl;go_wp2;go_ret;have LG:=NB.out.set 1 (.bool true);refine⟨rfl,⟨a,l.length,cap,by have h:=LG;simp at h;exact h,l,PD.out,QM.out.off NB.out (sT _ _),fun l' h=>by cases h⟩,(dU.dW hb).trans (sT _ _) (fun i h=> .inl h)⟩
 | some l0=>
  obtain rfl:=HS.out l0 rfl;by_cases hu:(jb 64 l0).2.2=0
  ·obtain⟨u,r,hu1,Rq,L6⟩:=xd hu
   obtain⟨a3,MP,QN,hi3,hi4⟩:=nY Rq a cap;have hle:=cU List.length Rq;rw [ah]at hle;have hle2:(ie u).length <=l0.length:=by omega
   have HI3:=V hi3;have HR:=V (show nn (some l0)=(u,some r)by simp only [nn,L6,cO,Prod.mk.injEq,true_and,aS];rw [Rq];exact cZ);have HI4:=V hi4;have Qk:=V Rq;clear hi3 hi4 hu hle Rq;go_enter func296,ntmps296;go_wp2_with fail;refine(CW _ l0 64 _ HL.out (by omega) (by omega)).mono ?_;rintro x w1 ⟨rfl,hb⟩;rw [L6];have LN:=MA.out.below hb hRl;have hl:=HL.out.below hb;have z0:=LN.free 0;have z1:=LN.free 1;have c0:w1.cell? ⟨R,0,none⟩=some (.slice a l0.length cap):=LN.cell 0;have c1:w1.cell? ⟨R,1,none⟩=some (.bool false):=LN.cell 1;have NB:=V LN;have QM:=V hl;clear LN hl L6;go_wp2;go_ret;have LG:=(NB.out.set 1 (.bool false)).set 0 (.slice a3 r.length MP);have M7:dU (fun k=>k=R) w1 ((w1.setCell ⟨R,1,none⟩ (.bool false)).setCell ⟨R,0,none⟩ (.slice a3 r.length MP)):=(sT 1 _).trans (sT 0 _) (fun i h=> .inl h);refine⟨by rw [HR.out];rfl,?_,(dU.dW hb).trans M7 (fun i h=> .inl h)⟩;rw [HR.out];exact⟨a3,r.length,MP,by simpa using LG,r,fun MO ad h=>(by obtain⟨ad0,g1,g2⟩:=HI4.out ad h;rw [g2];exact PD.out (by rw [Qk.out];intro g;exact MO (List.append_eq_nil_iff.1 g).2) _ g1),(HI3.out _ QM.out).off NB.out M7,fun l' h=>by injection h with h;exact h.symm⟩
  ·have HR:=V (show nn (some l0)=(0,none)by simp only [nn];rw [az hu])
   obtain⟨x,k,err,hr⟩:∃x k err,jb 64 l0=(x,k,err):=⟨_,_,_,rfl⟩;have f1:(err !=0)=true:=fa (fun h=>hu (by rw [hr];exact h));clear hu;go_enter func296,ntmps296;go_wp2_with fail;refine(CW _ l0 64 _ HL.out (by omega) (by omega)).mono ?_;rintro x w1 ⟨rfl,hb⟩;rw [hr];have LN:=MA.out.below hb hRl;have hl:=HL.out.below hb;have z0:=LN.free 0;have z1:=LN.free 1;have c0:w1.cell? ⟨R,0,none⟩=some (.slice a l0.length cap):=LN.cell 0;have c1:w1.cell? ⟨R,1,none⟩=some (.bool false):=LN.cell 1;have NB:=V LN;have QM:=V hl;clear LN hl hr;go_wp2;go_ret;have LG:=NB.out.set 1 (.bool true);refine⟨by rw [HR.out];rfl,?_,(dU.dW hb).trans (sT _ _) (fun i h=> .inl h)⟩;rw [HR.out];exact⟨a,l0.length,cap,by simpa using LG,l0,PD.out,QM.out.off NB.out (sT _ _),fun l' h=>by cases h⟩
def pZ:Nat ->Option (List UInt8) ->List eX × Option (List UInt8)
 | 0,st=>([],st)
 | _+1,none=>([],none)
 | n+1,some l=>(⟨(fB (some l)).1,(nn (fB (some l)).2).1⟩::(pZ n (nn (fB (some l)).2).2).1,(pZ n (nn (fB (some l)).2).2).2)
def iN (st:Option (List UInt8)):List eX × Option (List UInt8):=pZ (fB st).1 (fB st).2
theorem A8 (n:Nat):pZ n none=([],none):=by cases n <;>rfl
theorem wH:∀(l:List eX) (r:List UInt8),(∀v∈l,v.may/\v.ok) ->pZ l.length (some ((l.map rH).flatten++r))=(l,some r)
 | [],r,_=>rfl
 | v::l,r,h=>by
  obtain⟨hm,hk⟩:=h v (by simp);have h0:0 <=v.kind/\v.kind <=2:=by rcases hm with g | g <;>omega
  have e1:((v::l).map rH).flatten++r=eO v.kind.toNat++(ie v.n++((l.map rH).flatten++r)):=by simp [rH]
  have e2:((v.kind.toNat:Nat):Int)=v.kind:=by omega
  rw [e1,aE,pZ,jU _ _ (by omega)];simp only [G0 v.n _ hk.2.1 hk.2.2,wH l r (fun x hx=>h x (by simp [hx])),e2]
theorem wC (l:List eX) (r:List UInt8) (h:∀v∈l,v.may/\v.ok) (hl:l.length <=1000000):iN (some (jx l++r))=(l,some r):=by
 rw [iN,jx,aK,jU _ _ (by omega)];exact wH l r h
def Hk (B0 Rb:Nat) (st:Option (List UInt8)) (w:World) (e:Ending) (w':World):Prop:=
 ∃v,e= .returned v/\dS 52 2 fD w' w.heap.size v (iN st).1/\(∀x∈(iN st).1,x.ok)/\(iN st).1.length+oF (iN st).2 <=oF st/\Rd B0 w' Rb (iN st).2/\dU (fun k=>k=Rb) w w'
def KE (B0 Rb:Nat) (st0:Option (List UInt8)) (w w':World) (v:Value) (acc:List eX) (n:Nat) (st:Option (List UInt8)):Prop:=
 iN st0=(acc++(pZ n st).1,(pZ n st).2)/\dS 52 2 fD w' w.heap.size v acc/\(∀x∈acc,x.ok)/\acc.length+oF st <=oF st0/\Rd B0 w' Rb st/\dU (fun k=>k=Rb) w w'/\n < 4611686018427387904
theorem kL:(prog.info? 52).map (fun i=>(i.zero,i.size,i.bytes))=some (some (.agg #[.int .i64 0, .int .i64 0]),2,16):=by kernel_rfl
theorem wu (B0 Rb:Nat) (st:Option (List UInt8)) (w:World) (hr:Rd B0 w Rb st) (hl:oF st <=500000) (hB0:B0 <=w.heap.size):Calls prog 241 #[.pointer (some ⟨Rb,0,none⟩)] w (Hk B0 Rb st w):=by
 have hR:Rb < w.heap.size:=by obtain⟨_,_,_,hb,_,_⟩:=hr;exact hb.lt
 go_enter func241,ntmps241;go_wp2_with fail;refine(jW B0 Rb st w hr).mono ?_;rintro x w1 ⟨rfl,PO,Oa⟩;go_wp2_with fail;refine eC (fun a' w'=>∃(v:Value) (acc:List eX) (n:Nat) (s:Option (List UInt8)),a'=fr (.pointer (some ⟨Rb,0,none⟩)::gs a' 1 2 (v:: .int .i64 n::gs a' 5 22 []))/\KE B0 Rb st w w' v acc n s) (fun a' _=>(intOf (a'.tmps.getD 4 undef)).toNat) ?_ ?_
 ·exact⟨_,[],(fB st).1,(fB st).2,rfl,by simp [iN],dS.nil _ _,by simp,by have:=mB st;simpa using this,PO,Oa,lp st⟩
 ·clear Oa PO
  rintro R a' w1 ⟨v,acc,n,s,Lv,hJ⟩ HR;dsimp only [fr,gs]at Lv;generalize slot a'=f at Lv;subst Lv;obtain⟨hv,ho,LF,hlen,Nm,hk,hn⟩:=hJ;have Ms:=V Nm;obtain⟨ar,nr,PQ,LN,_⟩:=Nm;have c1:w1.cell? ⟨Rb,1,none⟩=some (.bool s.isNone):=LN.cell 1;have HV:=V hv;have Mv:=V LF;have Mq:=hk.size;clear hv LF LN;rcases aZ n with OW | OW
  ·subst OW
   go_wp2;go_ret;have h1:=HV.out;rw [pZ,bO]at h1;refine⟨v,rfl,?_,?_,?_,?_,hk⟩
   ·rw [h1];exact ho
   ·rw [h1];exact Mv.out
   ·rw [h1];exact hlen
   ·rw [h1];exact Ms.out
  have f0:decide ((0:Int) < (n:Int))=true:=ay (by omega);cases s with
  | none=>
   have c1:w1.cell? ⟨Rb,1,none⟩=some (.bool true):=c1;go_wp2;go_ret;have h1:=HV.out;rw [A8,bO]at h1;refine⟨v,rfl,?_,?_,?_,?_,hk⟩
   ·rw [h1];exact ho
   ·rw [h1];exact Mv.out
   ·rw [h1];exact hlen
   ·rw [h1];exact Ms.out
  | some l=>
   have c1:w1.cell? ⟨Rb,1,none⟩=some (.bool false):=c1;have hnot:∀i,ez v i ->¬ i=Rb:=fun i hi=>by have:=(ey ho hi).1;omega
   have MQ:=sZ l;have LL:=H8 (fB (some l)).2;have hn1:=lp (some l);obtain⟨Pm,NC⟩:=He (fB (some l)).2;have Ng:acc.length <=500000:=by omega
   have HS:=V (show acc.length+1+oF (nn (fB (some l)).2).2 <=oF st by omega);have HNT:=V hnot;clear MQ LL hlen hnot;go_wp2_with fail;refine(jW B0 Rb (some l) w1 Ms.out).mono ?_;rintro x w2 ⟨rfl,Of,LH⟩;have Ql:=V Of;clear Ms Of c1;go_wp2_with fail;refine(G8 B0 Rb _ w2 Ql.out).mono ?_;rintro x w3 ⟨rfl,QN,Mz⟩;have QL:dU (fun k=>k=Rb) w1 w3:=LH.trans Mz (fun i h=> .inl h);have Nl:dS 52 2 fD w3 w.heap.size v acc:=ho.keeps QL HNT.out;have OC:=QL.size;obtain⟨n',rfl⟩:∃n',n=n'+1:=⟨n - 1,by omega⟩;have HRD3:=V QN;clear Ql QN LH Mz;generalize Np:(fB (some l)).1=x0 at hn1;generalize hy0:(nn (fB (some l)).2).1=y0 at Pm NC;have HX:=V Np;have HY:=V hy0;clear Np hy0;go_wp2_with (first | (at_builtin;refine Stop.out ?_));change wpList _ _ _ _ _ _;refine fb w3 rfl _ _ 47 rfl _ 16 (by kernel_rfl) kL rfl (by decide) (by decide) w.heap.size v acc rfl Nl ⟨x0,y0⟩ _ rfl rfl (lD _) rfl (by omega) (by omega) ?_;intro v4 w4 MW OQ Nb;have hRd4:Rd B0 w4 Rb (nn (fB (some l)).2).2:=HRD3.out.keeps OQ (fun h=>HNT.out _ h rfl) (fun i hi=>by have:=(ey Nl hi).1;omega);have hk14:dU (fun k=>k=Rb) w w4:=(hk.trans QL (fun i h=> .inl h)).trans OQ (fun i h=> .inr (ey Nl h).1);clear OQ Nb QL hk ho Nl;go_wp2;refine HR.out _ _ ⟨v4,acc++[⟨x0,y0⟩],n',(nn (fB (some l)).2).2,rfl,?_,MW,?_,?_,hRd4,hk14,by omega⟩ ?_
   ·rw [HV.out,pZ,HX.out,HY.out]
    simp
   ·intro z hz
    rcases bT.1 hz with h | h
    ·exact Mv.out z h
    ·obtain rfl:=aV.1 h
     exact⟨⟨by show(-9223372036854775808:Int) <=(x0:Int);omega,by show(x0:Int) <=9223372036854775807;omega⟩,Pm,NC⟩
   ·rw [ah]
    exact HS.out
   ·simp [intOf]
structure kN where
 pos:Int
 eJ:Int
deriving DecidableEq
def kg (l:kN):List Value:=[.int .i64 l.pos, .int .i64 l.eJ]
theorem lI (l:kN):(kg l).length=2:=rfl
theorem zY (l:kN):∀u∈kg l,u.oneCell'=true:=by
 intro u hu;simp only [kg,bH,bP,da]at hu;rcases hu with rfl | rfl <;>rfl
structure eR where
 fn:Int
 pc:Int
 locals:List eX
 base:Int
 labels:List kN
deriving DecidableEq
def lT (x:eR × Value × Value):List Value:=[.int .i64 x.1.fn, .int .i64 x.1.pc,x.2.1, .int .i64 x.1.base,x.2.2]
theorem iq (x:eR × Value × Value):(lT x).length=5:=rfl
structure fy where
 dX:List eX
 eg:List eR
 asks:Int
deriving DecidableEq
def iR (n:Int):Prop:= -9223372036854775808 <=n/\n <=9223372036854775807
def kN.ok (l:kN):Prop:=iR l.pos/\iR l.eJ
def eR.ok (f:eR):Prop:=iR f.fn/\iR f.pc/\iR f.base/\(∀v∈f.locals,v.ok)/\∀l∈f.labels,l.ok
def fy.ok (s:fy):Prop:=iR s.asks/\(∀v∈s.dX,v.ok)/\∀f∈s.eg,f.ok
def fS (w:World) (v:Value) (l:List eR):Prop:=
 ∃us:List (Value × Value),us.length=l.length/\ee 5 lT w v (l.zip us)/\
  (∀(i:Nat) (f:eR) (u:Value × Value),l[i]?=some f ->us[i]?=some u ->ee 2 fD w u.1 f.locals/\ee 2 kg w u.2 f.labels)/\∀f∈l,f.ok
theorem fS.below {w w':World} {v:Value} {l:List eR} (h:fS w v l) (hb:Below w.heap.size w w'):fS w' v l:=by
 obtain⟨us,h1,h2,h3,h4⟩:=h;exact⟨us,h1,h2.below hb,fun i c u hc hu=>⟨(h3 i c u hc hu).1.below hb,(h3 i c u hc hu).2.below hb⟩,h4⟩
theorem fS.nil (w:World):fS w (.slice none 0 0) []:=⟨[],rfl,ee.nil w,by simp,by simp⟩
theorem fS.slice {w:World} {v:Value} {l:List eR} (h:fS w v l):∃a cap,v= .slice a l.length cap/\l.length <=cap/\cap <=9223372036854775807:=by
 obtain⟨us,h1,⟨a,cap,hv,h2,h3,_⟩,_⟩:=h;have:(l.zip us).length=l.length:=by rw [bS,h1,cP]
 rw [this]at hv h2;exact⟨a,cap,hv,h2,h3⟩
theorem fS.get {w:World} {a:Option Addr} {n cap:Nat} {l:List eR} (h:fS w (.slice a n cap) l) {k:Nat} {f:eR} (hf:l[k]?=some f):∃b off u x,a=some ⟨b,off,none⟩/\b < w.heap.size/\
  (w.cell? ⟨b,off+k*5,none⟩=some (.int .i64 f.fn)/\w.cell? ⟨b,off+k*5+1,none⟩=some (.int .i64 f.pc)/\w.cell? ⟨b,off+k*5+2,none⟩=some u/\w.cell? ⟨b,off+k*5+3,none⟩=some (.int .i64 f.base)/\
   w.cell? ⟨b,off+k*5+4,none⟩=some x)/\ee 2 fD w u f.locals/\ee 2 kg w x f.labels/\f.ok:=by
 obtain⟨us,h1,⟨a',LQ,hv,_,_,h2⟩,h3,h4⟩:=h;injection hv with e1 e2 e3;subst e1;have hk:k < us.length:=by rw [h1];exact(aG.1 hf).1
 have hu:=aq hk;have hz:(l.zip us)[k]?=some (f,us[k]):=(cR (z:=(f,us[k]))).2 ⟨hf,hu⟩;obtain⟨b,off,ha,LD,Mj⟩:=h2 k _ hz;obtain⟨g1,g2⟩:=h3 k f _ hf hu;exact⟨b,off,us[k].1,us[k].2,ha,LD,⟨Mj 0 _ rfl,Mj 1 _ rfl,Mj 2 _ rfl,Mj 3 _ rfl,Mj 4 _ rfl⟩,g1,g2,h4 f (aN hf)⟩
def jl (w:World) (uv uf:Value) (s:fy):Prop:=ee 2 fD w uv s.dX/\fS w uf s.eg/\s.ok
theorem jl.below {w w':World} {uv uf:Value} {s:fy} (h:jl w uv uf s) (hb:Below w.heap.size w w'):jl w' uv uf s:=⟨h.1.below hb,h.2.1.below hb,h.2.2⟩
def pz (n:Int):Bool:=decide (n < 0) || decide (10000 < n)
theorem kH {n:Int}:pz n=false↔0 <=n/\n <=10000:=by
 simp only [pz,dC,decide_eq_false_iff_not];omega
theorem xp {n:Int}:pz n=true↔¬ (0 <=n/\n <=10000):=by
 rw [<- kH];simp
def kN.may (l:kN):Prop:=(0 <=l.pos/\l.pos <=10000)/\(0 <=l.eJ/\l.eJ <=10000)
instance (l:kN):Decidable l.may:=by unfold kN.may;infer_instance
def eR.may (f:eR):Prop:=
 (∀l∈f.labels,l.may)/\f.labels.length <=40/\f.locals.length <=32/\(∀v∈f.locals,v.may)/\(0 <=f.fn/\f.fn <=10000)/\(0 <=f.pc/\f.pc <=10000)/\(0 <=f.base/\f.base <=10000)
instance (f:eR):Decidable f.may:=by unfold eR.may;infer_instance
def fy.may (s:fy):Prop:=s.dX.length <=1000/\s.eg.length <=32/\ -1 <=s.asks/\s.asks <=10000/\(∀v∈s.dX,v.may)/\∀f∈s.eg,f.may
instance (s:fy):Decidable s.may:=by unfold fy.may;infer_instance
def pk (l:kN):List UInt8:=eO l.pos.toNat++eO l.eJ.toNat
def CT (l:List kN):List UInt8:=eO l.length++(l.map pk).flatten
def nZ (f:eR):List UInt8:=jx f.locals++eO f.fn.toNat++eO f.pc.toNat++eO f.base.toNat++CT f.labels
def gY (l:List eR):List UInt8:=(l.map nZ).flatten
def iG (s:fy):List UInt8:=jx s.dX++eO (s.asks+1).toNat++eO s.eg.length++gY s.eg
theorem tq:∀l:List kN,((l.map pk).flatten).length <=20*l.length
 | []=>by simp
 | e::l=>by
  have h1:=(eL e.pos.toNat).2;have h2:=(eL e.eJ.toNat).2;have h3:=tq l;simp only [bF,bQ,ah,aE,pk]at*;omega
theorem BF {f:eR} (hm:f.may) (ho:f.ok):(nZ f).length <=1600:=by
 have h0:=(eL f.fn.toNat).2;have h1:=(eL f.pc.toNat).2;have h2:=(eL f.base.toNat).2;have h3:=(eL f.locals.length).2;have h4:=nE f.locals ho.2.2.2.1;have h5:=(eL f.labels.length).2;have h6:=tq f.labels;have h7:=hm.2.1;have h8:=hm.2.2.1;simp only [nZ,jx,CT,ah];omega
theorem po:∀l:List eR,(∀f∈l,f.may/\f.ok) ->(gY l).length <=1600*l.length
 | [],_=>by simp [gY]
 | f::l,h=>by
  have h1:=BF (h f (by simp)).1 (h f (by simp)).2;have h2:=po l (fun x hx=>h x (by simp [hx]));simp only [gY,bF,bQ,ah,aE]at*;omega
theorem zP (a b:List eR):gY (a++b)=gY a++gY b:=by simp [gY]
def ny:Nat ->Option (List UInt8) ->List kN × Option (List UInt8)
 | 0,st=>([],st)
 | _+1,none=>([],none)
 | n+1,some l=>(⟨(fB (some l)).1,(fB (fB (some l)).2).1⟩::(ny n (fB (fB (some l)).2).2).1,(ny n (fB (fB (some l)).2).2).2)
theorem Bx (n:Nat):ny n none=([],none):=by cases n <;>rfl
def nS (st:Option (List UInt8)):eR × Option (List UInt8):=
 (⟨(fB (iN st).2).1,(fB (fB (iN st).2).2).1,(iN st).1,(fB (fB (fB (iN st).2).2).2).1,
  (ny (fB (fB (fB (fB (iN st).2).2).2).2).1 (fB (fB (fB (fB (iN st).2).2).2).2).2).1⟩,
  (ny (fB (fB (fB (fB (iN st).2).2).2).2).1 (fB (fB (fB (fB (iN st).2).2).2).2).2).2)
def jJ:Nat ->Option (List UInt8) ->List eR × Option (List UInt8)
 | 0,st=>([],st)
 | _+1,none=>([],none)
 | n+1,some l=>((nS (some l)).1::(jJ n (nS (some l)).2).1,(jJ n (nS (some l)).2).2)
theorem xT (n:Nat):jJ n none=([],none):=by cases n <;>rfl
def qD (st:Option (List UInt8)):fy × Option (List UInt8):=
 (⟨(iN st).1,(jJ (fB (fB (iN st).2).2).1 (fB (fB (iN st).2).2).2).1,(fB (iN st).2).1 - 1⟩,(jJ (fB (fB (iN st).2).2).1 (fB (fB (iN st).2).2).2).2)
theorem wg:∀(l:List kN) (r:List UInt8),(∀e∈l,e.may) ->ny l.length (some ((l.map pk).flatten++r))=(l,some r)
 | [],r,_=>rfl
 | e::l,r,h=>by
  obtain⟨⟨h0,h1⟩,h2,h3⟩:=h e (by simp);have e1:((e::l).map pk).flatten++r=eO e.pos.toNat++(eO e.eJ.toNat++((l.map pk).flatten++r)):=by simp [pk]
  have g1:((e.pos.toNat:Nat):Int)=e.pos:=by omega
  have g2:((e.eJ.toNat:Nat):Int)=e.eJ:=by omega
  rw [e1,aE,ny,jU _ _ (by omega)];simp only [jU e.eJ.toNat _ (by omega),wg l r (fun x hx=>h x (by simp [hx])),g1,g2]
theorem Cf (f:eR) (r:List UInt8) (hm:f.may) (ho:f.ok):nS (some (nZ f++r))=(f,some r):=by
 obtain⟨m1,m2,m3,m4,⟨m5,m6⟩,⟨m7,m8⟩,m9,m10⟩:=hm;have e1:nZ f++r=jx f.locals++(eO f.fn.toNat++(eO f.pc.toNat++(eO f.base.toNat++(eO f.labels.length++((f.labels.map pk).flatten++r))))):=by simp [nZ,CT]
 have g1:((f.fn.toNat:Nat):Int)=f.fn:=by omega
 have g2:((f.pc.toNat:Nat):Int)=f.pc:=by omega
 have g3:((f.base.toNat:Nat):Int)=f.base:=by omega
 have h0:∀r,iN (some (jx f.locals++r))=(f.locals,some r):=fun r=>wC _ r (fun v hv=>⟨m4 v hv,ho.2.2.2.1 v hv⟩) (by omega);have h1:∀r,fB (some (eO f.fn.toNat++r))=(f.fn.toNat,some r):=fun r=>jU _ r (by omega);have h2:∀r,fB (some (eO f.pc.toNat++r))=(f.pc.toNat,some r):=fun r=>jU _ r (by omega);have h3:∀r,fB (some (eO f.base.toNat++r))=(f.base.toNat,some r):=fun r=>jU _ r (by omega);have h4:∀r,fB (some (eO f.labels.length++r))=(f.labels.length,some r):=fun r=>jU _ r (by omega);have h5:ny f.labels.length (some ((f.labels.map pk).flatten++r))=(f.labels,some r):=wg _ r m1;rw [e1,nS];simp only [h0,h1,h2,h3,h4,h5,g1,g2,g3]
theorem ss:∀(l:List eR) (r:List UInt8),(∀f∈l,f.may/\f.ok) ->jJ l.length (some (gY l++r))=(l,some r)
 | [],r,_=>rfl
 | f::l,r,h=>by
  obtain⟨hm,hk⟩:=h f (by simp);have e1:gY (f::l)++r=nZ f++(gY l++r):=by simp [gY]
  rw [e1,aE,jJ,Cf f _ hm hk];simp only [ss l r (fun x hx=>h x (by simp [hx]))]
theorem mH (s:fy) (hm:s.may) (ho:s.ok):qD (some (iG s))=(s,some []):=by
 obtain⟨m1,m2,m3,m4,m5,m6⟩:=hm;have e1:iG s=jx s.dX++(eO (s.asks+1).toNat++(eO s.eg.length++(gY s.eg++[]))):=by simp [iG]
 have g1:(((s.asks+1).toNat:Nat):Int) - 1=s.asks:=by omega
 have h0:∀r,iN (some (jx s.dX++r))=(s.dX,some r):=fun r=>wC _ r (fun v hv=>⟨m5 v hv,ho.2.1 v hv⟩) (by omega);have h1:∀r,fB (some (eO (s.asks+1).toNat++r))=((s.asks+1).toNat,some r):=fun r=>jU _ r (by omega);have h2:∀r,fB (some (eO s.eg.length++r))=(s.eg.length,some r):=fun r=>jU _ r (by omega);have h3:jJ s.eg.length (some (gY s.eg++[]))=(s.eg,some []):=ss _ _ (fun f hf=>⟨m6 f hf,ho.2.2 f hf⟩);rw [e1,qD];simp only [h0,h1,h2,h3,g1]
theorem BZ {a b:fy} (ha:a.may) (hao:a.ok) (hb:b.may) (Me:b.ok) (h:iG a=iG b):a=b:=by
 have h1:=mH a ha hao;have h2:=mH b hb Me;rw [h,h2]at h1;injection h1 with h1 _;exact h1.symm
theorem xt (s:fy):iG s≠[]:=by
 intro h;simp only [iG,jx,List.append_eq_nil_iff]at h;have:=(eL s.dX.length).1;rw [h.1.1.1.1]at this;simp at this
theorem BH {s:fy} (h:s.may) (ho:s.ok):1 <=(iG s).length/\(iG s).length <=100000:=by
 have g1:=eL s.dX.length;have g2:=nE s.dX ho.2.1;have g3:=(eL (s.asks+1).toNat).2;have g4:=(eL s.eg.length).2;have g5:=po s.eg (fun f hf=>⟨h.2.2.2.2.2 f hf,ho.2.2 f hf⟩);have g6:=h.1;have g7:=h.2.1;simp only [iG,jx,ah];omega
theorem vS (v:eX) (w:World):Calls prog 299 #[.agg #[.int .i64 v.kind, .int .i64 v.n]] w (ew (!decide v.may) w):=by
 go_enter func299,ntmps299;go_wp2_with fail;refine(lK v _).mono ?_;rintro e w2 ⟨rfl,hb⟩;replace hb:=((an w.heap.size w).alloc (ag _) _).trans (hb.mono (by simp));go_wp2;go_ret;exact⟨rfl,hb⟩
def uN (v:eX):Bool:= !decide v.may
theorem Cg (v:Value) (l:List eX) (w:World) (hl:ee 2 fD w v l):
  Calls prog 312 #[v, .func (.func 299) #[] #[]] w (jM uN l w):=by
 have HI:=V hl;obtain⟨a,cap,rfl,h1,h2,_⟩:=hl;unfold maxLen at h2;go_enter func312,ntmps312;go_wp2_with fail;refine eC (fun a' w'=>∃(k:Nat),a'=fr (.slice a l.length cap:: .func (.func 299) #[] #[]::gs a' 2 5 (.int .i64 l.length:: .int .i64 k::gs a' 9 10 []))/\pR uN l w w' k) (fun a' _=>(l.length - (intOf (a'.tmps.getD 8 undef)).toNat)) ?_ ?_
 ·exact⟨0,rfl,by omega,fun i hi=>by omega,an _ _⟩
 ·skip
  rintro R a' w1 ⟨k,Lv,hJ⟩ HR;dsimp only [fr,gs]at Lv;generalize slot a'=f at Lv;subst Lv;obtain⟨hk,hm,hb⟩:=hJ;have Ma:=V hm;clear hm;by_cases Mi:k < l.length
  ·obtain⟨e,he⟩:∃e,l[k]?=some e:=⟨_,aq Mi⟩
   obtain⟨a',LQ,hv,_,_,Lt⟩:=HI.out.below (hb.mono (ag _));injection hv with e1 e2 e3;subst e1 e3;obtain⟨b,off,rfl,LD,hc⟩:=Lt k e he;have c0:=hc 0 _ rfl;have c1:=hc 1 _ rfl;rw [aI]at c0;have HE:=V he;clear Lt e2 he hc;have LC:=vS e w1;cases hq:uN e
   all_goals
    rw [show(!decide e.may)=uN e from rfl,hq]at LC;have HQ:=V hq;clear hq;go_wp2_with fail;refine LC.mono ?_;rintro x w2 ⟨rfl,Lw⟩;replace hb:=dT hb Lw;clear LC c0 c1 Lw;go_wp2_with fail
   ·refine HR.out _ _ ⟨k+1,rfl,by omega,?_,hb⟩ ?_
    ·intro i hi d hd
     rcases bx i k with h | h
     ·exact Ma.out i h d hd
     ·obtain rfl:i=k:=by omega
      rw [HE.out]at hd;injection hd with hd;rw [<- hd];exact HQ.out
    ·simp [intOf]
     omega
   ·go_ret
    exact⟨by rw [ic HE.out HQ.out Ma.out];rfl,hb⟩
  ·obtain rfl:k=l.length:=by omega
   go_wp2;go_ret;exact⟨by rw [gJ Ma.out];rfl,hb⟩
theorem Bk (v:Value) (l:List eX) (w:World) (hl:ee 2 fD w v l):
  Calls prog 298 #[v, .func (.func 299) #[] #[]] w (ew (l.any uN) w):=by
 go_enter func298,ntmps298;go_wp2_with fail;refine(Cg v l _ hl).mono ?_;rintro x w2 ⟨rfl,hb⟩;go_wp2;go_ret;exact⟨by rw [<- ir];rfl,hb⟩
theorem vC (n:Int) (w:World):Calls prog 302 #[.int .i64 n] w (ew (pz n) w):=by
 by_cases q0:n < 0
 ·have f0:decide (n < 0)=true:=ay q0
  have HB:=V (show pz n=true by rw [pz,f0];rfl);go_enter func302,ntmps302;go_wp2;go_ret;exact⟨by rw [HB.out];rfl,an _ _⟩
 have f0:decide (n < 0)=false:=aw q0;by_cases q1:10000 < n
 ·have f1:decide (10000 < n)=true:=ay q1
  have HB:=V (show pz n=true by rw [pz,f0,f1];rfl);go_enter func302,ntmps302;go_wp2;go_ret;exact⟨by rw [HB.out];rfl,an _ _⟩
 ·have f1:decide (10000 < n)=false:=aw q1
  have HB:=V (show pz n=false by rw [pz,f0,f1];rfl);go_enter func302,ntmps302;go_wp2;go_ret;exact⟨by rw [HB.out];rfl,an _ _⟩
def eU (n:Int):List Value:=[.int .i64 n]
theorem Ck (v:Value) (l:List Int) (w:World) (hl:ee 1 eU w v l):
  Calls prog 112 #[v, .func (.func 302) #[] #[]] w (jM pz l w):=by
 have HI:=V hl;have hl':=hl;obtain⟨a,cap,rfl,h1,h2,_⟩:=hl';unfold maxLen at h2;clear hl;go_enter func112,ntmps112;go_wp2_with fail;refine eC (fun a' w'=>∃(k:Nat),a'=fr (.slice a l.length cap:: .func (.func 302) #[] #[]::gs a' 2 5 (.int .i64 l.length:: .int .i64 k::gs a' 9 10 []))/\pR pz l w w' k) (fun a' _=>(l.length - (intOf (a'.tmps.getD 8 undef)).toNat)) ?_ ?_
 ·exact⟨0,rfl,by omega,fun i hi=>by omega,an _ _⟩
 ·skip
  rintro R a' w1 ⟨k,Lv,hJ⟩ HR;dsimp only [fr,gs]at Lv;generalize slot a'=f at Lv;subst Lv;obtain⟨hk,hm,hb⟩:=hJ;have Ma:=V hm;clear hm;by_cases Mi:k < l.length;rotate_left
  ·obtain rfl:k=l.length:=by omega
   go_wp2;go_ret;exact⟨by rw [gJ Ma.out];rfl,hb⟩
  obtain⟨e,he⟩:∃e,l[k]?=some e:=⟨_,aq Mi⟩;obtain⟨a',LQ,hv,_,_,Lt⟩:=HI.out.below (hb.mono (ag _));injection hv with e1 e2 e3;subst e1 e3;obtain⟨b,off,rfl,LD,hc⟩:=Lt k e he;have c0:=hc 0 _ rfl;rw [aI,aY]at c0;have HE:=V he;clear Lt e2 he hc;have LC:=vC e w1;cases hq:pz e
  all_goals
   rw [hq]at LC;have HQ:=V hq;clear hq;go_wp2_with fail;refine LC.mono ?_;rintro x w2 ⟨rfl,Lw⟩;replace hb:=dT hb Lw;clear LC Lw;go_wp2_with fail
  ·refine HR.out _ _ ⟨k+1,rfl,by omega,?_,hb⟩ ?_
   ·intro i hi d hd
    rcases bx i k with h | h
    ·exact Ma.out i h d hd
    ·obtain rfl:i=k:=by omega
     rw [HE.out]at hd;injection hd with hd;rw [<- hd];exact HQ.out
   ·simp [intOf]
    omega
  ·go_ret
   exact⟨by rw [ic HE.out HQ.out Ma.out];rfl,hb⟩
theorem yz (v:Value) (l:List Int) (w:World) (hl:ee 1 eU w v l):
  Calls prog 75 #[v, .func (.func 302) #[] #[]] w (ew (l.any pz) w):=by
 go_enter func75,ntmps75;go_wp2_with fail;refine(Ck v l _ hl).mono ?_;rintro x w2 ⟨rfl,hb⟩;go_wp2;go_ret;exact⟨by rw [<- ir];rfl,hb⟩
theorem wO (v:Value) (l:List Int) (w:World) (hl:ee 1 eU w v l):Calls prog 250 #[v] w (ew (!l.any pz) w):=by
 go_enter func250,ntmps250;go_wp2_with fail;refine(yz v l _ hl).mono ?_;rintro x w2 ⟨rfl,hb⟩;go_wp2;go_ret;exact⟨rfl,hb⟩
theorem tL (v:Value) (l:List eX) (w:World) (hl:ee 2 fD w v l):Calls prog 245 #[v] w (ew (!l.any uN) w):=by
 go_enter func245,ntmps245;go_wp2_with fail;refine(Bk v l _ hl).mono ?_;rintro x w2 ⟨rfl,hb⟩;go_wp2;go_ret;exact⟨rfl,hb⟩
theorem pH (w:World) (x y:Int) (t:TypeId):ee 1 eU (w.alloc (.cells #[.int .i64 x, .int .i64 y] t)) (.slice (some ⟨w.heap.size,0,none⟩) 2 2) [x,y]:=by
 refine⟨_,2,rfl,ag _,by simp [maxLen],fun i z hz=>⟨w.heap.size,0,rfl,by simp,fun j v hv=>?_⟩⟩;rw [bJ]
 match j,hv with
 | 0,hv=>
  simp [eU]at hv;subst hv
  match i,hz with
  | 0,hz=>simp at hz;subst hz;rfl
  | 1,hz=>simp at hz;subst hz;rfl
  | i+2,hz=>simp at hz
 | j+1,hv=>simp [eU]at hv
theorem DV (w:World) (x y z:Int) (t:TypeId):ee 1 eU (w.alloc (.cells #[.int .i64 x, .int .i64 y, .int .i64 z] t)) (.slice (some ⟨w.heap.size,0,none⟩) 3 3) [x,y,z]:=by
 refine⟨_,3,rfl,ag _,by simp [maxLen],fun i q hq=>⟨w.heap.size,0,rfl,by simp,fun j v hv=>?_⟩⟩;rw [bJ]
 match j,hv with
 | 0,hv=>
  simp [eU]at hv;subst hv
  match i,hq with
  | 0,hq=>simp at hq;subst hq;rfl
  | 1,hq=>simp at hq;subst hq;rfl
  | 2,hq=>simp at hq;subst hq;rfl
  | i+3,hq=>simp at hq
 | j+1,hv=>simp [eU]at hv
def sQ (l:kN):Bool:= !decide l.may
theorem Av (l:kN) (w:World):Calls prog 249 #[.agg #[.int .i64 l.pos, .int .i64 l.eJ]] w (ew (sQ l) w):=by
 have hd:([l.pos,l.eJ].any pz)=sQ l:=by
  by_cases h:l.may
  ·rw [sQ,ay h]
   simp [kH.2 h.1,kH.2 h.2]
  ·rw [sQ,aw h]
   by_cases h1:0 <=l.pos/\l.pos <=10000
   ·have h2:¬ (0 <=l.eJ/\l.eJ <=10000):=fun g=>h ⟨h1,g⟩
    simp [xp.2 h2]
   ·simp [xp.2 h1]
 have HD:=V hd;clear hd;go_enter func249,ntmps249;go_wp2_with fail;have hl:=pH (w.alloc (.cells #[.int .i64 l.pos, .int .i64 l.eJ] 144)) l.pos l.eJ 3;rw [aC]at hl;refine(wO _ _ _ hl).mono ?_;rintro x w2 ⟨rfl,hb⟩;rw [HD.out];have LP:Below w.heap.size w w2:=(((an w.heap.size w).alloc (ag _) _).alloc (by simp) _).trans (hb.mono (by simp;omega));clear hl hb;go_wp2;go_ret;exact⟨by simp,LP⟩
theorem A7 (v:Value) (l:List kN) (w:World) (hl:ee 2 kg w v l):
  Calls prog 301 #[v, .func (.func 249) #[] #[]] w (jM sQ l w):=by
 have HI:=V hl;have hl':=hl;obtain⟨a,cap,rfl,h1,h2,_⟩:=hl';unfold maxLen at h2;clear hl;go_enter func301,ntmps301;go_wp2_with fail;refine eC (fun a' w'=>∃(k:Nat),a'=fr (.slice a l.length cap:: .func (.func 249) #[] #[]::gs a' 2 5 (.int .i64 l.length:: .int .i64 k::gs a' 9 10 []))/\pR sQ l w w' k) (fun a' _=>(l.length - (intOf (a'.tmps.getD 8 undef)).toNat)) ?_ ?_
 ·exact⟨0,rfl,by omega,fun i hi=>by omega,an _ _⟩
 ·skip
  rintro R a' w1 ⟨k,Lv,hJ⟩ HR;dsimp only [fr,gs]at Lv;generalize slot a'=f at Lv;subst Lv;obtain⟨hk,hm,hb⟩:=hJ;have Ma:=V hm;clear hm;by_cases Mi:k < l.length;rotate_left
  ·obtain rfl:k=l.length:=by omega
   go_wp2;go_ret;exact⟨by rw [gJ Ma.out];rfl,hb⟩
  obtain⟨e,he⟩:∃e,l[k]?=some e:=⟨_,aq Mi⟩;obtain⟨a',LQ,hv,_,_,Lt⟩:=HI.out.below (hb.mono (ag _));injection hv with e1 e2 e3;subst e1 e3;obtain⟨b,off,rfl,LD,hc⟩:=Lt k e he;have c0:=hc 0 _ rfl;have c1:=hc 1 _ rfl;rw [aI]at c0;have HE:=V he;clear Lt e2 he hc;have LC:=Av e w1;cases hq:sQ e
  all_goals
   rw [hq]at LC;have HQ:=V hq;clear hq;go_wp2_with fail;refine LC.mono ?_;rintro x w2 ⟨rfl,Lw⟩;replace hb:=dT hb Lw;clear LC Lw;go_wp2_with fail
  ·refine HR.out _ _ ⟨k+1,rfl,by omega,?_,hb⟩ ?_
   ·intro i hi d hd
    rcases bx i k with h | h
    ·exact Ma.out i h d hd
    ·obtain rfl:i=k:=by omega
     rw [HE.out]at hd;injection hd with hd;rw [<- hd];exact HQ.out
   ·simp [intOf]
    omega
  ·go_ret
   exact⟨by rw [ic HE.out HQ.out Ma.out];rfl,hb⟩
theorem zU (v:Value) (l:List kN) (w:World) (hl:ee 2 kg w v l):
  Calls prog 248 #[v, .func (.func 249) #[] #[]] w (ew (l.any sQ) w):=by
 go_enter func248,ntmps248;go_wp2_with fail;refine(A7 v l _ hl).mono ?_;rintro x w2 ⟨rfl,hb⟩;go_wp2;go_ret;exact⟨by rw [<- ir];rfl,hb⟩
structure eP where
 op:Int
 a:Int
 b:Int
 l:List Int
deriving DecidableEq
def rA (x:eP × Value):List Value:=[.int .i64 x.1.op, .int .i64 x.1.a, .int .i64 x.1.b,x.2]
def eP.ok (x:eP):Prop:=iR x.op/\iR x.a/\iR x.b/\∀n∈x.l,iR n
def gD (w:World) (x:eP) (u:Value):Prop:=ee 1 eU w u x.l/\x.ok
def gu (w:World) (v:Value) (l:List eP):Prop:=ef 4 rA gD w v l
theorem gD.below {w w':World} {x:eP} {u:Value} (h:gD w x u) (hb:Below w.heap.size w w'):gD w' x u:=⟨h.1.below hb,h.2⟩
theorem gu.below {w w':World} {v:Value} {l:List eP} (h:gu w v l) (hb:Below w.heap.size w w'):gu w' v l:=ef.below h hb (fun _ _ h=>h.below hb)
structure gw where
 params:List Int
 results:List Int
deriving DecidableEq
def oV (x:gw × Value × Value):List Value:=[x.2.1,x.2.2]
def gw.ok (x:gw):Prop:=(∀n∈x.params,iR n)/\∀n∈x.results,iR n
def gG (w:World) (x:gw) (u:Value × Value):Prop:=(ee 1 eU w u.1 x.params/\ee 1 eU w u.2 x.results)/\x.ok
def sY (w:World) (v:Value) (l:List gw):Prop:=ef 2 oV gG w v l
theorem gG.below {w w':World} {x:gw} {u:Value × Value} (h:gG w x u) (hb:Below w.heap.size w w'):gG w' x u:=⟨⟨h.1.1.below hb,h.1.2.below hb⟩,h.2⟩
theorem sY.below {w w':World} {v:Value} {l:List gw} (h:sY w v l) (hb:Below w.heap.size w w'):sY w' v l:=ef.below h hb (fun _ _ h=>h.below hb)
structure jD where
 mod:ByteArray
 name:ByteArray
 type:Int
deriving DecidableEq
def qv (x:jD):List Value:=[.string x.mod, .string x.name, .int .i64 x.type]
structure fN where
 has:Bool
 min:Int
 max:Int
deriving DecidableEq
def fN.ok (x:fN):Prop:=iR x.min/\iR x.max
structure jz where
 isVar:Bool
 init:eX
deriving DecidableEq
def qB (x:jz):List Value:=[.bool x.isVar, .int .i64 x.init.kind, .int .i64 x.init.n]
structure iU where
 name:ByteArray
 func:Int
deriving DecidableEq
def oZ (x:iU):List Value:=[.string x.name, .int .i64 x.func]
structure jh where
 off:Int
 funcs:List Int
deriving DecidableEq
def rE (x:jh × Value):List Value:=[.int .i64 x.1.off,x.2]
def jh.ok (x:jh):Prop:=iR x.off/\∀n∈x.funcs,iR n
def gQ (w:World) (x:jh) (u:Value):Prop:=ee 1 eU w u x.funcs/\x.ok
theorem gQ.below {w w':World} {x:jh} {u:Value} (h:gQ w x u) (hb:Below w.heap.size w w'):gQ w' x u:=⟨h.1.below hb,h.2⟩
structure hI where
 locals:List Int
 body:List eP
deriving DecidableEq
def oY (x:hI × Value × Value):List Value:=[x.2.1,x.2.2]
def gE (w:World) (x:hI) (u:Value × Value):Prop:=(ee 1 eU w u.1 x.locals/\gu w u.2 x.body)/\∀n∈x.locals,iR n
theorem gE.below {w w':World} {x:hI} {u:Value × Value} (h:gE w x u) (hb:Below w.heap.size w w'):gE w' x u:=⟨⟨h.1.1.below hb,h.1.2.below hb⟩,h.2⟩
structure gR where
 off:Int
 bytes:List UInt8
deriving DecidableEq
def nJ (x:gR × Value):List Value:=[.int .i64 x.1.off,x.2]
def gb (w:World) (x:gR) (u:Value):Prop:=eG w u x.bytes/\iR x.off
theorem gb.below {w w':World} {x:gR} {u:Value} (h:gb w x u) (hb:Below w.heap.size w w'):gb w' x u:=⟨h.1.below hb,h.2⟩
structure eu where
 types:List gw
 imports:List jD
 funcs:List Int
 table:fN
 mem:fN
 globals:List jz
 dY:List iU
 elems:List jh
 eh:List hI
 eA:List gR
deriving DecidableEq
def eu.ok (m:eu):Prop:=(∀x∈m.imports,iR x.type)/\(∀n∈m.funcs,iR n)/\m.table.ok/\m.mem.ok/\(∀x∈m.globals,x.init.ok)/\∀x∈m.dY,iR x.func
structure eE where
 types:Value
 imports:Value
 funcs:Value
 globals:Value
 dY:Value
 elems:Value
 eh:Value
 eA:Value
def eE.cells (u:eE) (m:eu):Array Value:=
 #[u.types,u.imports,u.funcs, .bool m.table.has, .int .i64 m.table.min, .int .i64 m.table.max, .bool m.mem.has, .int .i64 m.mem.min, .int .i64 m.mem.max,u.globals,u.dY,u.elems,u.eh,u.eA]
def eo (w:World) (u:eE) (m:eu):Prop:=
 sY w u.types m.types/\ee 3 qv w u.imports m.imports/\ee 1 eU w u.funcs m.funcs/\ee 3 qB w u.globals m.globals/\ee 2 oZ w u.dY m.dY/\ef 2 rE gQ w u.elems m.elems/\ef 2 oY gE w u.eh m.eh/\ef 2 nJ gb w u.eA m.eA/\m.ok
theorem eo.below {w w':World} {u:eE} {m:eu} (h:eo w u m) (hb:Below w.heap.size w w'):eo w' u m:=by
 obtain⟨h1,h2,h3,h4,h5,h6,h7,h8,h9⟩:=h;exact⟨h1.below hb,h2.below hb,h3.below hb,h4.below hb,h5.below hb,h6.below hb (fun _ _ h=>h.below hb),h7.below hb (fun _ _ h=>h.below hb),h8.below hb (fun _ _ h=>h.below hb),h9⟩
def lN (n a b:Int):Bool:=decide (a <=n)&&decide (n <=b)
theorem jE {n a b:Int}:lN n a b=true↔a <=n/\n <=b:=by simp [lN]
def sF (op:Int):Int × Int:=
 if lN op 69 79 || lN op 103 120 then(1,op)else if lN op 80 90 then(2,op - 80+69)else if lN op 121 138 then(2,op - 121+103)else(0,0)
def eQ (op:Int):List Int × Int × Bool:=
 if op=167 then([2],1,true)else if op=172 then([1],2,true)else if op=173 then([1],2,true)else if(sF op).1=0 then([],0,false)else if(sF op).2=69 then([(sF op).1],1,true)
 else if lN (sF op).2 70 79 then([(sF op).1,(sF op).1],1,true)else if lN (sF op).2 103 105 then([(sF op).1],(sF op).1,true)else([(sF op).1,(sF op).1],(sF op).1,true)
theorem A2 {op:Int} (h:(eQ op).2.2=true):69 <=op/\op <=173:=by
 unfold eQ at h;by_cases h1:op=167
 ·omega
 rw [az h1]at h;by_cases h2:op=172
 ·omega
 rw [az h2]at h;by_cases h3:op=173
 ·omega
 rw [az h3]at h;by_cases h4:(sF op).1=0
 ·rw [aD h4]at h
  simp at h
 unfold sF at h4;by_cases g1:(lN op 69 79 || lN op 103 120)=true
 ·simp only [Bool.or_eq_true,jE]at g1
  omega
 rw [az g1]at h4;by_cases g2:lN op 80 90=true
 ·rw [jE]at g2
  omega
 rw [az g2]at h4;by_cases g3:lN op 121 138=true
 ·rw [jE]at g3
  omega
 rw [az g3]at h4;exact absurd rfl h4
theorem uU (u:Nat) (rest:List UInt8) (hu:u < 4294967296):gZ 32 (eO u++rest)=(u,(eO u).length,0):=by
 obtain⟨p,z,h1,h2,h3,h4⟩:=rG 9 u (by omega);change eO u=p++[z]at h1;have hp:p.length <=4:=by
  rcases rV 10 u (by omega)with h | h
  ·change(eO u).length <=1 at h
   rw [h1]at h;simp at h;simp [h]
  ·change 128^((eO u).length - 1) <=u at h
   rw [h1,ah,aB,de]at h;rcases bx 4 p.length with g | g
   ·have:(128:Nat)^5 <=128^p.length:=cL (by omega) g
    omega
   ·exact g
 have hl:eW 32 (eO u++rest)=((eO u).length,0):=by
  rw [h1,aK,dA];unfold eW;rw [az (by omega),nO p z rest h2 h3,az (by omega),az (by simp)];simp
 unfold gZ;rw [hl,az (by simp)];have ht:(eO u++rest).take (eO u).length=eO u:=cJ;simp only [ht];rw [sf (by omega),aD ⟨rfl,by simpa using hu⟩]
theorem BP (n:Int) (rest:List UInt8) (h0: -2147483648 <=n) (h1:n <=2147483647):jb 32 (ie n++rest)=(n,(ie n).length,0):=by
 obtain⟨p,z,e1,e2,e3,e4⟩:=oQ 9 n (by omega) (by omega);change ie n=p++[z]at e1;have hp:p.length <=4:=by
  rcases Dd 9 n (by omega) (by omega)with h | ⟨-,h⟩
  ·change(ie n).length=1 at h
   rw [e1]at h;simp at h;simp [h]
  ·change ¬ (-(64*128^((ie n).length - 2)) <=n/\n < 64*128^((ie n).length - 2))at h
   rw [e1,ah,aB]at h;rcases bx 4 p.length with g | g
   ·exfalso
    apply h;have h5:(128:Nat)^4 <=128^(p.length+1 - 2):=cL (by omega) (by omega);have h6:(128:Int)^4 <=128^(p.length+1 - 2):=by
     have:=Int.ofNat_le.2 h5;simpa using this
    have h7:(128:Int)^4=268435456:=by decide
    constructor <;>omega
   ·exact g
 have hl:eW 32 (ie n++rest)=((ie n).length,0):=by
  rw [e1,aK,dA];unfold eW;rw [az (by omega),nO p z rest e2 e3,az (by omega),az (by simp)];simp
 unfold jb;rw [hl,az (by simp)];have ht:(ie n++rest).take (ie n).length=ie n:=cJ;simp only [ht];have h2:n < 9223372036854775808:=by omega
 rw [rS (by omega) h2,aD ⟨rfl,by simpa using h0,by simp;omega⟩]
def fC (op:Int):Nat:=
 if op=0\/op=1\/op=5\/op=11\/op=15\/op=26\/op=27 then 1
 else if op=2\/op=3\/op=4 then 2
 else if op=12\/op=13\/op=16\/op=32\/op=33\/op=34\/op=35\/op=36 then 3
 else if op=14 then 4
 else if op=17 then 5
 else if op=40\/op=41\/op=44\/op=45\/op=54\/op=55\/op=58 then 6
 else if op=63\/op=64 then 7
 else if op=65 then 8
 else if op=66 then 9
 else if(eQ op).2.2=true then 1 else 0
theorem vV {op:Int} (h:fC op≠0):0 <=op/\op <=173:=by
 unfold fC at h
 repeat (split at h;·omega)
 rename_i hk;split at h
 ·rename_i hk
  have:=A2 hk;omega
 ·exact absurd rfl h
theorem nK (op:Int):fC op <=9:=by
 unfold fC
 repeat (split;·omega)
 omega
def fO (n:Int):Prop:=0 <=n/\n <=1000
instance (n:Int):Decidable (fO n):=by unfold fO;infer_instance
def eP.may (x:eP):Prop:=
 (fC x.op≠4 ->x.l=[])/\(fC x.op≠6 ->x.b=0)/\
 (fC x.op=1/\x.a=0\/fC x.op=2/\(0 <=x.a/\x.a <=2)\/fC x.op=3/\fO x.a\/fC x.op=4/\(fO x.a/\x.l.length <=50/\∀n∈x.l,fO n)\/fC x.op=5/\fO x.a\/
  fC x.op=6/\((0 <=x.a/\x.a <=3)/\0 <=x.b/\x.b <=4294967295)\/fC x.op=7/\x.a=0\/fC x.op=8/\(-2147483648 <=x.a/\x.a <=2147483647)\/fC x.op=9)
instance (x:eP):Decidable x.may:=by unfold eP.may;infer_instance
def fZ (x:eP):List UInt8:=
 match fC x.op with
 | 2=>[if x.a=0 then 0x40 else if x.a=1 then 0x7f else 0x7e]
 | 3=>eO x.a.toNat
 | 4=>eO x.l.length++((x.l.map fun n=>eO n.toNat).flatten++eO x.a.toNat)
 | 5=>eO x.a.toNat++[0]
 | 6=>eO x.a.toNat++eO x.b.toNat
 | 7=>[0]
 | 8=>ie x.a
 | 9=>ie x.a
 | _=>[]
def ix (x:eP):List UInt8:=b8 (x.op.toNat %256)::fZ x
def kO (Nu:Nat) (l:List UInt8):Option (Nat × List UInt8):=if(gZ 32 l).2.2=0/\(gZ 32 l).1 <=Nu then some ((gZ 32 l).1,l.drop (gZ 32 l).2.1)else none
def BK (bits:Int) (l:List UInt8):Option (Int × List UInt8):=if(jb bits l).2.2=0 then some ((jb bits l).1,l.drop (jb bits l).2.1)else none
def o8:List UInt8 ->Option (List UInt8)
 | 0::l=>some l
 | _=>none
def pj (Nu:Nat):Nat ->List UInt8 ->Option (List Int × List UInt8)
 | 0,l=>some ([],l)
 | n+1,l=>(kO Nu l).bind fun x=>(pj Nu n x.2).bind fun y=>some ((x.1:Int)::y.1,y.2)
def sI:List UInt8 ->Option (Int × List UInt8)
 | 0x40::l=>some (0,l)
 | 0x7f::l=>some (1,l)
 | 0x7e::l=>some (2,l)
 | _=>none
def gf:List UInt8 ->Option (eP × List UInt8)
 | []=>none
 | c::l=>match fC c.toNat with
  | 1=>some (⟨c.toNat,0,0,[]⟩,l)
  | 2=>(sI l).bind fun x=>some (⟨c.toNat,x.1,0,[]⟩,x.2)
  | 3=>(kO 1000 l).bind fun x=>some (⟨c.toNat,x.1,0,[]⟩,x.2)
  | 4=>(kO 50 l).bind fun n=>(pj 1000 n.1 n.2).bind fun t=>(kO 1000 t.2).bind fun x=>some (⟨c.toNat,x.1,0,t.1⟩,x.2)
  | 5=>(kO 1000 l).bind fun x=>(o8 x.2).bind fun r=>some (⟨c.toNat,x.1,0,[]⟩,r)
  | 6=>(kO 3 l).bind fun x=>(kO 4294967295 x.2).bind fun y=>some (⟨c.toNat,x.1,y.1,[]⟩,y.2)
  | 7=>(o8 l).bind fun r=>some (⟨c.toNat,0,0,[]⟩,r)
  | 8=>(BK 32 l).bind fun x=>some (⟨c.toNat,x.1,0,[]⟩,x.2)
  | 9=>(BK 64 l).bind fun x=>some (⟨c.toNat,x.1,0,[]⟩,x.2)
  | _=>none
theorem mE {Nu n:Nat} (r:List UInt8) (h:n <=Nu) (hl:Nu < 4294967296):kO Nu (eO n++r)=some (n,r):=by
 unfold kO;rw [uU n r (by omega)];simp [h]
theorem xw {Nu:Nat} (hl:Nu < 4294967296):∀(l:List Int) (r:List UInt8),(∀n∈l,0 <=n/\n <=Nu) ->pj Nu l.length ((l.map fun n=>eO n.toNat).flatten++r)=some (l,r)
 | [],r,_=>rfl
 | n::l,r,h=>by
  obtain⟨h0,h1⟩:=h n (by simp);rw [bF,bQ,aK,aE,pj,mE _ (by omega) hl];simp only [ao,xw hl l r (fun x hx=>h x (by simp [hx]))];have:((n.toNat:Nat):Int)=n:=by omega
  rw [this]
theorem Ed (n:Int) (r:List UInt8) (h:iR n):BK 64 (ie n++r)=some (n,r):=by
 unfold BK;rw [tM n r h.1 h.2];simp
theorem DI (n:Int) (r:List UInt8) (h0: -2147483648 <=n) (h1:n <=2147483647):BK 32 (ie n++r)=some (n,r):=by
 unfold BK;rw [BP n r h0 h1];simp
theorem n4 (x:eP) (r:List UInt8) (hm:x.may) (ho:x.ok):gf (ix x++r)=some (x,r):=by
 obtain⟨op,a,b,l⟩:=x;obtain⟨m1,m2,m3⟩:=hm;simp only at m1 m2 m3;have hf:fC op≠0:=by
  rcases m3 with h | h | h | h | h | h | h | h | h <;>first | (rw [h.1];decide) | (rw [h];decide)
 obtain⟨o1,o2⟩:=vV hf;have hc:((b8 (op.toNat %256)).toNat:Int)=op:=by
  rw [gC (Nat.mod_lt _ (by omega))];omega
 have key:gf (ix ⟨op,a,b,l⟩++r)=(match fC op with
  | 1=>some (⟨op,0,0,[]⟩,fZ ⟨op,a,b,l⟩++r)
  | 2=>(sI (fZ ⟨op,a,b,l⟩++r)).bind fun x=>some (⟨op,x.1,0,[]⟩,x.2)
  | 3=>(kO 1000 (fZ ⟨op,a,b,l⟩++r)).bind fun x=>some (⟨op,x.1,0,[]⟩,x.2)
  | 4=>(kO 50 (fZ ⟨op,a,b,l⟩++r)).bind fun n=>(pj 1000 n.1 n.2).bind fun t=>(kO 1000 t.2).bind fun x=>some (⟨op,x.1,0,t.1⟩,x.2)
  | 5=>(kO 1000 (fZ ⟨op,a,b,l⟩++r)).bind fun x=>(o8 x.2).bind fun r=>some (⟨op,x.1,0,[]⟩,r)
  | 6=>(kO 3 (fZ ⟨op,a,b,l⟩++r)).bind fun x=>(kO 4294967295 x.2).bind fun y=>some (⟨op,x.1,y.1,[]⟩,y.2)
  | 7=>(o8 (fZ ⟨op,a,b,l⟩++r)).bind fun r=>some (⟨op,0,0,[]⟩,r)
  | 8=>(BK 32 (fZ ⟨op,a,b,l⟩++r)).bind fun x=>some (⟨op,x.1,0,[]⟩,x.2)
  | 9=>(BK 64 (fZ ⟨op,a,b,l⟩++r)).bind fun x=>some (⟨op,x.1,0,[]⟩,x.2)
  | _=>none):=by
  show(match fC ((b8 (op.toNat %256)).toNat:Int)with | 1=>_ | 2=>_ | 3=>_ | 4=>_ | 5=>_ | 6=>_ | 7=>_ | 8=>_ | 9=>_ | _=>_)=_;rw [hc];rfl
 rw [key];rcases m3 with⟨h,h1⟩ | ⟨h,h1,h2⟩ | ⟨h,h1,h2⟩ | ⟨h,⟨h1,h2⟩,h3,h4⟩ | ⟨h,h1,h2⟩ | ⟨h,⟨h1,h2⟩,h3,h4⟩ | ⟨h,h1⟩ | ⟨h,h1,h2⟩ | h
 all_goals
  unfold fZ;simp only [h]
 ·rw [h1,m1 (by omega),m2 (by omega)]
  rfl
 ·rw [m1 (by omega),m2 (by omega)]
  rcases(show a=0\/a=1\/a=2 by omega)with rfl | rfl | rfl <;>rfl
 ·rw [mE r (by omega) (by omega),m1 (by omega),m2 (by omega)]
  have:((a.toNat:Nat):Int)=a:=by omega
  simp [this]
 ·rw [aK,aK,mE _ (by omega) (by omega)]
  simp only [ao];rw [xw (by omega) l _ (fun n hn=>by have:=h4 n hn;exact⟨this.1,by have:=this.2;omega⟩)];simp only [ao];rw [mE r (by omega) (by omega),m2 (by omega)];have:((a.toNat:Nat):Int)=a:=by omega
  simp [this]
 ·rw [aK,mE _ (by omega) (by omega),m1 (by omega),m2 (by omega)]
  have:((a.toNat:Nat):Int)=a:=by omega
  simp [this,o8]
 ·rw [aK,mE _ (by omega) (by omega)]
  simp only [ao];rw [mE _ (by omega) (by omega),m1 (by omega)];have e1:((a.toNat:Nat):Int)=a:=by omega
  have e2:((b.toNat:Nat):Int)=b:=by omega
  simp [e1,e2]
 ·rw [h1,m1 (by omega),m2 (by omega)]
  rfl
 ·rw [DI a r h1 h2,m1 (by omega),m2 (by omega)]
  rfl
 ·rw [Ed a r ho.2.1,m1 (by omega),m2 (by omega)]
  rfl
structure jP where
 pos:Int
 KK:Int
 fin:Int
deriving DecidableEq
def xr (b:jP):List Value:=[.int .i64 b.pos, .int .i64 b.KK, .int .i64 b.fin]
def kA (op:Int):Bool:=op==2 || op==3 || op==4
def gd (l:List eP) (i:Nat) (x:eP) (st:List jP × List Nat):Option (List jP × List Nat):=
 if kA x.op then(if st.2.length=40 then none else some (st.1++[⟨i,-1,-1⟩],st.2++[st.1.length]))
 else if x.op≠5/\x.op≠11 then some st
 else match st.2.getLast? with
  | none=>none
  | some k=>match st.1[k]? with
   | none=>none
   | some b=>if x.op=11 then some (st.1.set k {b with fin:=i},st.2.dropLast)
    else match l[b.pos.toNat]? with
     | none=>none
     | some y=>if y.op≠4\/0 <=b.KK then none else some (st.1.set k {b with KK:=i},st.2)
def gB (l:List eP):List eP ->Nat ->List jP × List Nat ->Option (List jP × List Nat)
 | [],_,st=>some st
 | x::rest,i,st=>(gd l i x st).bind fun N5=>gB l rest (i+1) N5
def fJ (l:List eP):Option (List jP):=
 if 300 < l.length then none else(gB l l 0 ([],[])).bind fun st=>if st.2=[]then some st.1 else none
def qa (l:List eP):List UInt8:=(l.map ix).flatten++[11]
def hU (op deep:Int):Int:=if op=11 then deep - 1 else if kA op then deep+1 else deep
def ka:Nat ->List eP ->Int ->List UInt8 ->Option (List eP × List UInt8)
 | 0,_,_,_=>none
 | f+1,acc,deep,l=>(gf l).bind fun x=>
  if hU x.1.op deep < 0 then(if(fJ acc).isSome then some (acc,x.2)else none)else if 300 < acc.length+1 then none else ka f (acc++[x.1]) (hU x.1.op deep) x.2
def kI (l:List UInt8):Option (List eP × List UInt8):=ka 301 [] 0 l
theorem qg {l:List eP} {i:Nat} {x:eP} {st N5:List jP × List Nat} (h:gd l i x st=some N5):0 <=hU x.op st.2.length/\(N5.2.length:Int)=hU x.op st.2.length:=by
 unfold gd at h;unfold hU;by_cases h1:kA x.op=true
 ·rw [aD h1]at h
  have h11:x.op≠11:=by
   intro e;rw [e]at h1;simp [kA]at h1
  rw [az h11,aD h1];split at h
  ·cases h
  ·injection h with h
   subst h;simp;omega
 rw [az h1]at h;by_cases h2:x.op≠5/\x.op≠11
 ·rw [aD h2]at h
  injection h with h;subst h;rw [az h2.2,az h1];exact⟨by omega,rfl⟩
 rw [az h2]at h;cases hg:st.2.getLast? with
 | none=>rw [hg]at h;cases h
 | some k=>
  rw [hg]at h;have hl:1 <=st.2.length:=by
   rcases aZ st.2.length with g | g
   ·rw [aH g]at hg
    simp at hg
   ·exact g
  simp only at h;cases hb:st.1[k]? with
  | none=>rw [hb]at h;cases h
  | some b=>
   rw [hb]at h;simp only at h;by_cases h3:x.op=11
   ·rw [aD h3]at h
    injection h with h;subst h;rw [aD h3];simp only [dm];omega
   ·rw [az h3]at h
    rw [az h3,az h1];cases hy:l[b.pos.toNat]? with
    | none=>rw [hy]at h;cases h
    | some y=>
     rw [hy]at h;simp only at h;split at h
     ·cases h
     ·injection h with h
      subst h;exact⟨by omega,rfl⟩
theorem BV (r:List UInt8):gf (11::r)=some (⟨11,0,0,[]⟩,r):=by
 have h:=n4 ⟨11,0,0,[]⟩ r (by decide) ⟨⟨by decide,by decide⟩,⟨by decide,by decide⟩,⟨by decide,by decide⟩,by simp⟩;have e:ix ⟨11,0,0,[]⟩=[11]:=by decide
 rw [e]at h;exact h
theorem uo {body:List eP} (hm:(fJ body).isSome=true) (hl:body.length <=300) (r:List UInt8):∀(rest acc:List eP) (i:Nat) (st N5:List jP × List Nat) (f:Nat),acc++rest=body ->gB body rest i st=some N5 ->N5.2=[] ->
  (∀x∈rest,x.may/\x.ok) ->acc.length+f=301 ->ka f acc st.2.length ((rest.map ix).flatten++11::r)=some (body,r)
 | [],acc,i,st,N5,f,ha,hg,he,_,hf=>by
  rw [bO]at ha;subst ha;injection hg with hg;subst hg;obtain⟨f,rfl⟩:∃f',f=f'+1:=⟨f - 1,by omega⟩;rw [cT,List.flatten_nil,cg,ka,BV];simp only [ao];rw [he,aD (by simp [hU]),aD hm]
 | x::rest,acc,i,st,N5,f,ha,hg,he,hx,hf=>by
  have hla:acc.length+rest.length+1 <=300:=by
   rw [<- ha]at hl;simp at hl;omega
  obtain⟨f,rfl⟩:∃f',f=f'+1:=⟨f - 1,by omega⟩;rw [gB]at hg;cases hs:gd body i x st with
  | none=>rw [hs]at hg;cases hg
  | some Rr=>
   rw [hs]at hg;simp only [ao]at hg;obtain⟨d0,d1⟩:=qg hs;obtain⟨m1,m2⟩:=hx x (by simp);rw [bF,bQ,aK,ka,n4 x _ m1 m2];simp only [ao];rw [az (by omega),az (by omega), <- d1];exact uo hm hl r rest (acc++[x]) (i+1) Rr N5 f (by simp [ha]) hg he (fun y hy=>hx y (by simp [hy])) (by simp;omega)
theorem D1 (l:List eP) (r:List UInt8) (hm:(fJ l).isSome=true) (hx:∀x∈l,x.may/\x.ok):kI (qa l++r)=some (l,r):=by
 have hm':=hm;unfold fJ at hm;split at hm
 ·cases hm
 ·rename_i hl
  cases hg:gB l l 0 ([],[])with
  | none=>rw [hg]at hm;cases hm
  | some st=>
   rw [hg]at hm;simp only [ao]at hm;split at hm
   ·rename_i he
    have:=uo hm' (by omega) r l [] 0 ([],[]) st 301 rfl hg he hx rfl;rw [kI,qa,aK];exact this
   ·cases hm
end Go.Proofs.YtjmeglibedbljaaGreatDoor
