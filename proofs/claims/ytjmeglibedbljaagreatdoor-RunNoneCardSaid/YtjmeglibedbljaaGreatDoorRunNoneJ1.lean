import Derived.Test.YtjmeglibedbljaaGreatDoorProg
import Derived.WalkKit
import Derived.WalkSpells
import Derived.WalkLawsBesides
import Derived.OwnWalk
import Derived.Outline
import Derived.ScopeJumps
import Derived.Lib.Hide
import Derived.Below
import Derived.Deep.RegionWith
import Derived.Deep.QuietTactic
import Derived.BigQuiet
import Derived.OrdersHeld
import Derived.Deep.RegionHeld3
namespace Go.Proofs.YtjmeglibedbljaaGreatDoor
set_option maxRecDepth 100000
set_option maxHeartbeats 20000000
open Go.RowKit Tryz
open Lib renaming hid->V
set_option linter.all false
def ag:=@Nat.le_refl
def ah:=@List.length_append
def an:=@Go.RowKit.Below.refl
def ao:=@Option.bind_some
def aq:=@List.getElem?_eq_getElem
def aw:=@decide_eq_false
def ay:=@decide_eq_true
def az:=@if_neg
def aA:=@Go.NoPanic.normal
def aB:=@List.length_singleton
def aC:=@Go.World.size_alloc
def aD:=@if_pos
def aE:=@List.length_cons
def aF:=@Go.bodyPost_ret
def aG:=@List.getElem?_eq_some_iff
def aH:=@List.eq_nil_of_length_eq_zero
def aI:=@Nat.add_zero
def aJ:=@List.getElem?_cons_zero
def aK:=@List.append_assoc
def aL:=@List.length_nil
def aM:=@List.getElem?_toArray
def aN:=@List.mem_of_getElem?
def aO:=@Go.World.block_lt_of_cell?
def aP:=@List.length_take
def aQ:=@Nat.le_trans
def aR:=@List.take_add_one
def aS:=@Option.some.injEq
def aT:=@List.getElem?_cons_succ
def aU:=@List.take_length
def aV:=@List.mem_singleton
def aW:=@List.setIfInBounds_toArray
def aX:=@Go.World.cell?_of_block
def aY:=@Nat.mul_one
def aZ:=@Nat.eq_zero_or_pos
def bg:=@List.length_drop
def bj:=@Go.run_underlying
def bo:=@Nat.lt_of_lt_of_le
def bp:=@List.length_replicate
def bq:=@Option.map_some
def bu:=@Option.map_eq_some_iff
def bx:=@Nat.lt_or_ge
def bz:=@List.set_cons_succ
def bA:=@List.getElem?_append_right
def bB:=@Nat.zero_le
def bC:=@List.set_cons_zero
def bD:=@List.length_map
def bE:=@List.getElem?_append_left
def bF:=@List.map_cons
def bG:=@Bool.and_eq_true
def bH:=@List.mem_cons
def bI:=@List.cons_append
def bJ:=@Go.World.cell?_alloc_new
def bK:=@Go.Lib.run_eql_slice_nil
def bL:=@List.flatMap_cons
def bM:=@List.not_any_eq_all_not
def bN:=@Int.pow_succ
def bO:=@List.append_nil
def bP:=@List.not_mem_nil
def bQ:=@List.flatten_cons
def bR:=@Nat.zero_add
def bS:=@List.length_zip
def bT:=@List.mem_append
def bU:=@Go.run_loadVar_row
def bV:=@Go.info_parts
def bW:=@Bool.false_eq_true
def bX:=@Go.Sem.run_pure
def bY:=@Go.Calls.mono
def bZ:=@Array.getElem?_eq_some_iff
def cd:=@Bool.true_and
def cg:=@List.nil_append
def cm:=@Nat.min_eq_left
def cn:=@List.map_append
def cq:=@List.drop_eq_getElem_cons
def ct:=@Go.World.cell?_setCell_other
def cz:=@Go.Result.andThen_ok
def cA:=@Array.getElem?_toList
def cB:=@List.take_append_drop
def cC:=@List.mem_of_mem_take
def cD:=@of_decide_eq_true
def cE:=@Int.toNat_natCast
def cF:=@Bool.decide_and
def cG:=@Go.Sem.run_bind
def cH:=@Go.RowKit.Below.heap_setCell
def cI:=@Go.rounds_succ
def cJ:=@List.take_left
def cK:=@Nat.mul_le_mul_right
def cL:=@Nat.pow_le_pow_right
def cM:=@List.getElem?_map
def cN:=@Go.ByteArray.toList_eq
def cO:=@if_true
def cP:=@Nat.min_self
def cQ:=@List.getElem?_take
def cR:=@List.getElem?_zip_eq_some
def cS:=@Nat.add_mul
def cT:=@List.map_nil
def cU:=@congrArg
def cV:=@List.pairwise_append
def cW:=@decide_eq_true_eq
def cX:=@Go.frozen_of_row
def cY:=@List.getLast?_cons_cons
def cZ:=@List.drop_left
def da:=@or_false
def db:=@List.dropLast_concat_getLast
def dc:=@decide_eq_decide
def dd:=@List.take_of_length_le
def de:=@Nat.add_sub_cancel
def df:=@Option.isNone_some
def dg:=@Option.isNone_none
def dh:=@Nat.two_pow_pos
def di:=@List.zip_append
def dj:=@List.getElem?_eq_none
def dk:=@List.length_set
def dm:=@List.length_dropLast
def dn:=@Go.heap_alloc_new
def dq:=@Go.wp_loop_rounds
def dr:=@List.map_toArray
def dt:=@Nat.le_of_eq
def du:=@UInt8.toNat_inj
def dv:=@Bool.eq_iff_iff
def dw:=@List.take_left'
def dx:=@List.size_toArray
def dy:=@List.any_eq_false
def dz:=@Decidable.not_not
def dA:=@List.singleton_append
def dB:=@beq_iff_eq
def dC:=@Bool.or_eq_false_iff
def dD:=@if_false
def dE:=@Option.getD_some
def dF:=@Nat.mul_le_mul_left
def dG:=@List.getLast?_eq_getElem?
def dH:=@List.mem_or_eq_of_mem_set
def dI:=@and_congr_left'
def dJ:=@Go.grownCap_le_maxLen
def dK:=@Go.wpList_plain
def dL:=@Nat.zero_mul
def dM:=@List.mem_replicate
def dN:=@Go.step_scope
def dO:=@Bool.not_eq_true'
def dP:=@Nat.le_succ
def dQ:=@Nat.pow_add
section
def Stop (p:Prop):Prop:=p
theorem Stop.out {p:Prop} (h:Stop p):p:=h
def ez (v:Value) (k:Nat):Prop:=v.ownBlock=some k
structure dU (S:Nat ->Prop) (w w':World):Prop where
 os:w'.os=w.os
 tape:w'.tape=w.tape
 output:w'.output=w.output
 size:w.heap.size <=w'.heap.size
 block:∀k,k < w.heap.size ->¬ S k ->w'.heap[k]?=w.heap[k]?
theorem dU.refl (S:Nat ->Prop) (w:World):dU S w w:=⟨rfl,rfl,rfl,ag _,fun _ _ _=>rfl⟩
theorem dU.trans {S S':Nat ->Prop} {a b c:World} (h:dU S a b) (k:dU S' b c) (hs:∀i,S' i ->S i\/a.heap.size <=i):dU S a c:=
 ⟨k.os.trans h.os,k.tape.trans h.tape,k.output.trans h.output,aQ h.size k.size,fun i hi hn=>
  (k.block i (bo hi h.size) (fun s=>(hs i s).elim hn (fun h=>by omega))).trans (h.block i hi hn)⟩
theorem dU.mono {S S':Nat ->Prop} {a b:World} (h:dU S a b) (hs:∀i,S i ->S' i):dU S' a b:=
 ⟨h.os,h.tape,h.output,h.size,fun i hi hn=>h.block i hi (fun s=>hn (hs i s))⟩
theorem dU.below {S:Nat ->Prop} {B:Nat} {a b:World} (h:dU S a b) (hB:B <=a.heap.size) (hs:∀i,S i ->B <=i):Below B a b:=
 ⟨h.os,h.tape,h.output,h.size,fun i hi=>h.block i (by omega) (fun s=>by have:=hs i s;omega)⟩
theorem dU.dW {S:Nat ->Prop} {a b:World} (h:Below a.heap.size a b):dU S a b:=
 ⟨h.os,h.tape,h.output,h.size,fun i hi _=>h.block i hi⟩
theorem dU.drew {S:Nat ->Prop} {a b:World} (h:dU S a b):dU S a b.drew:=⟨h.os,h.tape,h.output,h.size,h.block⟩
theorem dU.alloc {S:Nat ->Prop} {a b:World} (h:dU S a b) (o:Obj):dU S a (b.alloc o):=
 h.trans (dU.dW ((an _ _).alloc (ag _) o) (S:=fun _=>False)) (fun _ h=>h.elim)
theorem fF {B:Nat} {a b:World} (h:Below B a.drew b):Below B a b:=⟨h.os,h.tape,h.output,h.size,h.block⟩
theorem dU.AQ {S:Nat ->Prop} {a b:World} (h:dU S a.drew b):dU S a b:=⟨h.os,h.tape,h.output,h.size,h.block⟩
def eB (w:World) (v v':Value):Prop:=∀k,ez v' k ->ez v k\/w.heap.size <=k
theorem eB.refl (w:World) (v:Value):eB w v v:=fun _ h=> .inl h
theorem eB.trans {w w1:World} {a b c:Value} (h:eB w a b) (k:eB w1 b c) (hs:w.heap.size <=w1.heap.size):eB w a c:=
 fun i hi=>(k i hi).elim (h i) (fun h=> .inr (by omega))
theorem mj {w w':World} {S:Nat ->Prop} {base e size n:Nat} {v:Value} {xs:List Value} (h:w.ownsRow base e size v n xs) (hk:dU S w w') (hs:∀k,ez v k ->¬ S k):
  w'.ownsRow base e size v n xs:=by
 refine⟨h.1,?_⟩;rcases h.2 with hn | ⟨g,cap,cur,rfl,hb,hgg,rest⟩
 ·exact .inl hn
 ·refine .inr ⟨g,cap,cur,rfl,hb,?_,rest⟩
  rw [hk.block g (bZ.1 hgg).1 (hs g rfl)];exact hgg
theorem ey {w:World} {base e size n:Nat} {v:Value} {xs:List Value} (h:w.ownsRow base e size v n xs) {k:Nat} (hk:ez v k):base <=k/\k < w.heap.size:=h.lt k hk
theorem my {w:World} {base base' e size n:Nat} {v:Value} {xs:List Value} (h:w.ownsRow base e size v n xs) (hs:∀k,ez v k ->base' <=k):w.ownsRow base' e size v n xs:=by
 refine⟨h.1,?_⟩;rcases h.2 with hn | ⟨g,cap,cur,rfl,hb,rest⟩
 ·exact .inl hn
 ·exact .inr ⟨g,cap,cur,rfl,hs g rfl,rest⟩
section
variable {P:Program} (w:World)
theorem tl (base:Nat) (t ty e:TypeId) (i:TypeInfo) (z:Value) (size bytes:Nat) (ht:P.underlying t=some (.slice e)) (hi:P.info? e=some i) (hz:i.zero=some z)
  (Qh:i.size=size) (Nk:i.bytes=bytes) (P5:z.cells.size=size) (Mq:0 < size)
  (v:Value) (n:Nat) (xs:List Value) (Lu:w.ownsRow base e size v n xs)
  (a:Addr) (m c:Nat) (news:List Value) (hl:news.length=m*size) (OZ:∀j u,news[j]?=some u ->w.cell? (a.add j)=some u) (h1:∀u∈news,u.oneCell'=true)
  (OU:n+m <=maxLen) (OA:(n+m)*bytes <=140737488355328) (LW:base <=w.heap.size):
  ∃v' w',(Builtin.append_ #[t,t] ty #[v, .slice (some a) m c]).run P w= .ok v' w'/\w'.ownsRow base e size v' (n+m) (xs++news)/\dU (ez v) w w'/\eB w v v':=by
 subst Qh;subst Nk;have hsmall:n+m <=9223372036854775807:=by simp only [maxLen]at OU;omega
 have hlen:(xs++news).length=(n+m)*i.size:=by rw [ah,Lu.1,hl,cS]
 have grown:∀(old:Nat),old < n+m ->
   (w.drew.alloc (.cells (xs.toArray++news.toArray++Builtin.zeroCells z.cells (grownCap w (n+m) old e - (n+m))) e)).ownsRow base e i.size
    (.slice (some ⟨w.heap.size,0,none⟩) (n+m) (grownCap w (n+m) old e)) (n+m) (xs++news)/\
   dU (ez v) w (w.drew.alloc (.cells (xs.toArray++news.toArray++Builtin.zeroCells z.cells (grownCap w (n+m) old e - (n+m))) e))/\
   eB w v (.slice (some ⟨w.heap.size,0,none⟩) (n+m) (grownCap w (n+m) old e)):=by
  intro old ho;have hge:=grownCap_ge w (n+m) old e;have Nc:grownCap w (n+m) old e <=maxLen:=dJ w (n+m) old e OU;refine⟨⟨hlen, .inr ⟨w.heap.size,_,_,rfl,LW,dn w.drew _,hge,Nc,?_,?_⟩⟩,(dU.refl _ _).drew.alloc _,fun k hk=> .inr ?_⟩
  ·simp only [Array.size_append,dx,size_zeroCells,P5,Lu.1,hl, <- cS]
   congr 1
   omega
  ·simp only [Array.toList_append,aK]
   rw [<- aK, <- hlen];exact cJ
  ·simp [ez,Value.ownBlock]at hk
   omega
 rcases Lu.2 with⟨rfl,rfl⟩ | ⟨g,cap,cur,rfl,hbg,hg,hnc,Nc,hcs,Ri⟩
 ·have hx:xs=[]:=aH (by simpa using Lu.1)
  subst hx;by_cases hm:m=0
  ·subst hm
   have hn:news=[]:=aH (by simpa using hl);subst hn;refine⟨.slice none 0 0,w,?_,World.ownsRow_nil w base e i.size,dU.refl _ _,eB.refl _ _⟩;simp [Builtin.append_,bj ht,sizeOf,typeInfo,hi,Builtin.lenOf,Builtin.firstCells,loadCells,loadCellsFrom]
  ·have hr:=run_append_nil (P:=P) w t ty e i z ht hi hz a m c news hl OZ (by omega) (by omega) (by have hb:=OA;simp only [bR]at hb;omega)
   have PB:=grown 0 (by omega);simp only [bR,cg,Array.empty_append]at PB⊢;exact⟨_,_,hr,PB.1,PB.2.1,PB.2.2⟩
 ·by_cases O0:n+m <=cap
  ·have hfit:n*i.size+news.length <=cur.size:=by rw [hl,hcs, <- cS];exact cK _ O0
   have hr:=run_append_room (P:=P) w t ty e i ht hi g n cap cur hg a m c news hl OZ h1 O0 hfit;refine⟨_,_,hr,⟨hlen, .inr ⟨g,cap,_,rfl,hbg,setRow_heap w g cur _ e _ hg,O0,Nc,?_,?_⟩⟩,⟨rfl,rfl,rfl,by simp,fun k _ hk=>setRow_other w g k _ (fun e=>hk (by simp [ez,Value.ownBlock,e]))⟩,fun k hk=> .inl hk⟩
   ·simp only [dx,ah,aP,bg,Array.length_toList]
    omega
   ·rw [Ri, <- hlen]
    exact cJ
  ·have holds:∀j u,xs[j]?=some u ->w.cell? ((⟨g,0,none⟩:Addr).add j)=some u:=Lu.cells (g:=g) rfl
   have hr:=run_append_grow (P:=P) w t ty e i z ht hi hz ⟨g,0,none⟩ n cap xs Lu.1 holds a m c news hl OZ (by omega) (by omega) (growslice_fits (by omega) OA);have PB:=grown cap (by omega);exact⟨_,_,hr,PB.1,PB.2.1,PB.2.2⟩
theorem qO {ops:Array Oper} {rest:List Oper} {o:Oper} {a:Act} {Q:Exit ->Act ->World ->Prop} (OP:o.guard=none) (s x:Operand) (t:TypeId)
  (ho:o.op= .call {callee:= .builtin .append,args:=#[s,x],argTypes:=#[t,t]})
  (base:Nat) (e:TypeId) (i:TypeInfo) (z:Value) (size bytes:Nat) (ht:P.underlying t=some (.slice e)) (hi:P.info? e=some i) (hz:i.zero=some z)
  (Qh:i.size=size) (Nk:i.bytes=bytes) (P5:z.cells.size=size) (Mq:0 < size)
  (v:Value) (n:Nat) (xs:List Value) (hs:a.eval s=v) (Lu:w.ownsRow base e size v n xs)
  (ad:Addr) (m c:Nat) (news:List Value) (hx:a.eval x= .slice (some ad) m c) (hl:news.length=m*size) (OZ:∀j u,news[j]?=some u ->w.cell? (ad.add j)=some u) (h1:∀u∈news,u.oneCell'=true)
  (OU:n+m <=maxLen) (OA:(n+m)*bytes <=140737488355328) (LW:base <=w.heap.size)
  (h:∀v' w',w'.ownsRow base e size v' (n+m) (xs++news) ->dU (ez v) w w' ->eB w v v' ->wpList P ops Q rest (a.put o.dst v') w'):wpList P ops Q (o::rest) a w:=
 dK OP fun _ hK=>by
  obtain⟨v',w',hr,h2,h3,h4⟩:=tl (P:=P) w base t o.type e i z size bytes ht hi hz Qh Nk P5 Mq v n xs Lu ad m c news hl OZ h1 OU OA LW;unfold Oper.wp execOp;simp only [ho,resolve,invoke,builtin,cG,bX,cz,dr,bF,cT,hs,hx,hr];exact hK _ _ (h v' w' h2 h3 h4)
theorem sG {ops:Array Oper} {rest:List Oper} {o:Oper} {a:Act} {Q:Exit ->Act ->World ->Prop} (OP:o.guard=none) (s x:Operand) (t:TypeId)
  (ho:o.op= .call {callee:= .builtin .append,args:=#[s,x],argTypes:=#[t,t]})
  (base:Nat) (e:TypeId) (i:TypeInfo) (z:Value) (size bytes:Nat) (ht:P.underlying t=some (.slice e)) (hi:P.info? e=some i) (hz:i.zero=some z)
  (Qh:i.size=size) (Nk:i.bytes=bytes) (P5:z.cells.size=size) (Mq:0 < size)
  (v:Value) (n:Nat) (xs:List Value) (hs:a.eval s=v) (Lu:w.ownsRow base e size v n xs)
  (news:List Value) (hx:a.eval x= .slice (some ⟨w.heap.size,0,none⟩) 1 1) (hl:news.length=size) (h1:∀u∈news,u.oneCell'=true)
  (OU:n+1 <=maxLen) (OA:(n+1)*bytes <=140737488355328) (LW:base <=w.heap.size)
  (h:∀v' w',w'.ownsRow base e size v' (n+1) (xs++news) ->dU (ez v) w w' ->eB w v v' ->wpList P ops Q rest (a.put o.dst v') w'):wpList P ops Q (o::rest) a (w.alloc (.cells news.toArray e)):=by
 have hk:dU (ez v) w (w.alloc (.cells news.toArray e)):=(dU.refl _ _).alloc _;refine qO (P:=P) (w.alloc (.cells news.toArray e)) OP s x t ho base e i z size bytes ht hi hz Qh Nk P5 Mq v n xs hs (Lu.alloc _) ⟨w.heap.size,0,none⟩ 1 1 news hx (by omega) ?_ h1 OU OA (by simp;omega) ?_
 ·intro j u hu
  have O1:(⟨w.heap.size,0,none⟩:Addr).add j=⟨w.heap.size,j,none⟩:=by unfold Addr.add;split <;>simp_all
  rw [O1,bJ];simpa using hu
 ·intro v' w' h2 h3 h4
  refine h v' w' h2 (hk.trans h3 (fun i hi=> .inl hi)) (fun k hk'=>(h4 k hk').imp id (fun h=>?_));have:w.heap.size <=(w.alloc (.cells news.toArray e)).heap.size:=by simp
  omega
end
abbrev bv (x:UInt8):Value:= .int .u8 (x.toNat:Int)
theorem Ce (l:List UInt8):∀u∈l.map bv,u.oneCell'=true:=by
 intro u hu;obtain⟨x,_,rfl⟩:=List.mem_map.1 hu;rfl
theorem nV:(prog.info? 5).map (fun i=>(i.zero,i.size,i.bytes))=some (some (.int .u8 0),1,1):=by kernel_rfl
def ed (w:World) (B:Nat) (v:Value) (l:List UInt8):Prop:=w.ownsRow B 5 1 v l.length (l.map bv)
theorem ed.nil (w:World) (B:Nat):ed w B (.slice none 0 0) []:=World.ownsRow_nil w B _ _
theorem ed.keeps {w w':World} {S:Nat ->Prop} {B:Nat} {v:Value} {l:List UInt8} (h:ed w B v l) (hk:dU S w w') (hs:∀k,ez v k ->¬ S k):ed w' B v l:=mj h hk hs
theorem ed.below {w w':World} {B:Nat} {v:Value} {l:List UInt8} (h:ed w B v l) (hk:Below w.heap.size w w'):ed w' B v l:=
 mj h (dU.dW (S:=fun _=>False) hk) (fun _ _ h=>h)
theorem eT {P:Program} (w:World) {ops:Array Oper} {rest:List Oper} {o:Oper} {a:Act} {Q:Exit ->Act ->World ->Prop} (OP:o.guard=none) (s x:Operand)
  (hP:P=prog) (ho:o.op= .call {callee:= .builtin .append,args:=#[s,x],argTypes:=#[104,104]})
  (B:Nat) (v:Value) (l:List UInt8) (hs:a.eval s=v) (Lu:ed w B v l)
  (y:UInt8) (m:Int) (hm:m=y.toNat) (hx:a.eval x= .slice (some ⟨w.heap.size,0,none⟩) 1 1)
  (OU:l.length <=140737488355327) (LW:B <=w.heap.size)
  (h:∀v' w',ed w' B v' (l++[y]) ->dU (ez v) w w' ->eB w v v' ->wpList P ops Q rest (a.put o.dst v') w'):wpList P ops Q (o::rest) a (w.alloc (.cells #[.int .u8 m] 5)):=by
 subst hP;subst hm;obtain⟨i0,hi,NM,ME,Nd⟩:=bV nV;refine sG (P:=prog) w OP s x 104 ho B 5 i0 (.int .u8 0) 1 1 (by kernel_rfl) hi NM ME Nd rfl (by decide) v l.length (l.map bv) hs Lu [bv y] hx rfl (Ce [y]) (by simp only [maxLen];omega) (by omega) LW ?_;intro v' w' h2 h3 h4;refine h v' w' ?_ h3 h4;simpa [ed] using h2
theorem jS {P:Program} {a:Act} {w:World} {Q:Exit ->Act ->World ->Prop} {c rest:Code} (l:Nat) (J:Act ->World ->Prop) (μ:Act ->World ->Nat) (hf:findLabel c l=some (.seq .skip rest))
  (pass:∀a w,J a w ->rest.wp P (Exit.jump l (fun a' w'=>J a' w'/\μ a' w' < μ a w) Q) a w)
  (first:(∀a w,J a w ->rest.wp P (Exit.jump l J Q) a w) ->c.wp P (Exit.jump l J Q) a w):(Code.scope c).wp P Q a w:=by
 refine wp_scope_jumps l J μ hf (first fun a w hJ=>Code.wp_mono ?_ (pass a w hJ)) fun a w hJ=>wp_seq (wp_skip ?_)
 ·intro e a' w' h
  cases e <;>first | exact h | exact⟨h.1,h.2.1⟩
 ·exact pass a w hJ
theorem lk {l:Nat} {J:Act ->World ->Prop} {μ:Act ->World ->Nat} {Q:Exit ->Act ->World ->Prop} {a:Act} {w:World} {m:Nat} (h:J a w) (hm:μ a w < m):Exit.jump l (fun a' w'=>J a' w'/\μ a' w' < m) Q (.goto l) a w:=⟨rfl,h,hm⟩
theorem iy (l:Nat) (J:Act ->World ->Prop) (Q:Exit ->Act ->World ->Prop) (a:Act) (w:World):Exit.jump l J Q .ret a w=Q .ret a w:=rfl
def eG (w:World) (v:Value) (l:List UInt8):Prop:=
 ∃a cap,v= .slice a l.length cap/\l.length <=cap/\cap <=maxLen/\∀i x,l[i]?=some x ->∃b off,a=some ⟨b,off,none⟩/\w.cell? ⟨b,off+i,none⟩=some (bv x)
theorem eG.nil (w:World):eG w (.slice none 0 0) []:=⟨none,0,rfl,ag _,by simp [maxLen],by simp⟩
theorem eG.below {w w':World} {v:Value} {l:List UInt8} (h:eG w v l) (hb:Below w.heap.size w w'):eG w' v l:=by
 obtain⟨a,cap,hv,h1,h2,h3⟩:=h;refine⟨a,cap,hv,h1,h2,fun i x hx=>?_⟩;obtain⟨b,off,ha,hc⟩:=h3 i x hx;exact⟨b,off,ha,by rw [hb.cell (aO w _ hc)];exact hc⟩
theorem ed.gl {w:World} {B:Nat} {v:Value} {l:List UInt8} (h:ed w B v l):eG w v l:=by
 obtain⟨hl,hv | ⟨g,cap,cur,hv,hb,hg,hn,hm,hs,ht⟩⟩:=h
 ·obtain⟨rfl,h0⟩:=hv
  obtain rfl:l=[]:=aH h0;exact eG.nil w
 ·refine⟨_,cap,hv,hn,hm,fun i x hx=>⟨g,0,rfl,?_⟩⟩
  rw [cell_of_row w g _ cur _ _ hg,bR];have h1:(l.map bv)[i]?=some (bv x):=by simp [hx]
  rw [<- ht,cQ]at h1;split at h1
  ·simpa using h1
  ·cases h1
theorem eG.take {w:World} {a:Option Addr} {n cap:Nat} {l:List UInt8} (h:eG w (.slice a n cap) l) (k:Nat) (hk:k <=l.length):eG w (.slice a k cap) (l.take k):=by
 obtain⟨a',LQ,hv,h1,h2,h3⟩:=h;injection hv with e1 e2 e3;subst e1 e2 e3;refine⟨a,cap,?_,?_,h2,fun i x hx=>?_⟩
 ·rw [aP,cm hk]
 ·rw [aP];omega
 ·rw [cQ]at hx
  split at hx
  ·exact h3 i x hx
  ·cases hx
def bs (l:List UInt8):ByteArray:=⟨l.toArray⟩
theorem foldl_push:∀(l:List UInt8) (s:ByteArray),((l.map fun x=>(x.toNat:Int)).foldl (fun r n=>r.push (UInt8.ofNat n.toNat)) s)=⟨s.data++l.toArray⟩
 | [],s=>by simp
 | x::l,s=>by
  simp only [bF,List.foldl_cons];rw [foldl_push l];simp [ByteArray.push]
theorem pO {w:World} {v:Value} {l:List UInt8} (h:eG w v l):(convert 104 9 v).run prog w= .ok (.string (bs l)) w:=by
 obtain⟨a,cap,rfl,h1,h2,h3⟩:=h;rw [run_convert_bytes_string w 104 9 5 a l.length cap (by kernel_rfl) (by kernel_rfl) (by kernel_rfl)];cases l with
 | nil=>
  cases a with
  | none=>rfl
  | some a=>rfl
 | cons x l=>
  obtain⟨b,off,rfl,_⟩:=h3 0 x rfl;have hl:=run_loadCells_list (P:=prog) w ⟨b,off,none⟩ ((x::l).map bv) (fun j u hu=>by
   rw [cM]at hu;cases hj:(x::l)[j]? with
   | none=>rw [hj]at hu;cases hu
   | some y=>
    rw [hj]at hu;simp at hu;subst hu;obtain⟨b',off',he,hc⟩:=h3 j y hj;injection he with he;injection he with e1 e2;subst e1 e2;have O1:(⟨b,off,none⟩:Addr).add j=⟨b,off+j,none⟩:=by
     unfold Addr.add;split <;>simp_all
    rw [O1];exact hc)
  rw [bD]at hl;rw [run_bytesToString w ⟨b,off,none⟩ (x::l).length cap ((x::l).map fun x=>(x.toNat:Int)) (by rw [hl];simp [List.map_map])];rw [foldl_push];have he:ByteArray.empty.data=#[]:=rfl;rw [he];simp [bs]
theorem kU (l:List UInt8):(bs l).toList=l:=by
 rw [cN];rfl
theorem eI {a b:Int} (h:a=b):(a==b)=true:=by simp [h]
theorem dR {a b:Int} (h:a≠b):(a==b)=false:=by simp [h]
theorem fa {a b:Int} (h:a≠b):(a !=b)=true:=bne_iff_ne.2 h
theorem kX {a b:Int} (h:a=b):(a !=b)=false:=by rw [h];exact bne_self_eq_false b
theorem J5:∀x:Fin 256,x.val ||| 128=x.val %128+128:=by decide+kernel
theorem uB (n:Nat) (h:n < 256):bits .or .u8 (n:Int) 128=((n %128+128:Nat):Int):=by
 have h0:=u8_or_nat n 128 h (by omega);rw [J5 ⟨n,h⟩]at h0;exact h0
def b8 (n:Nat):UInt8:=UInt8.ofNat n
theorem gC {n:Nat} (h:n < 256):(b8 n).toNat=n:=by simpa [b8] using Nat.mod_eq_of_lt h
end
section
def eD (w:World) (X:Nat) (xs:Array Value) (t:TypeId):Prop:=w.heap[X]?=some (.cells xs t)
section
variable {w w':World} {X:Nat} {xs:Array Value} {t:TypeId}
theorem eD.lt (h:eD w X xs t):X < w.heap.size:=(bZ.1 h).1
theorem eD.new (w:World) (xs:Array Value) (t:TypeId):eD (w.alloc (.cells xs t)) w.heap.size xs t:=dn w _
theorem eD.keeps {S:Nat ->Prop} (h:eD w X xs t) (hk:dU S w w') (hs:¬ S X):eD w' X xs t:=(hk.block X h.lt hs).trans h
theorem eD.below {B:Nat} (h:eD w X xs t) (hb:Below B w w') (hX:X < B):eD w' X xs t:=(hb.block X hX).trans h
theorem eD.alloc (h:eD w X xs t) (o:Obj):eD (w.alloc o) X xs t:=h.below ((an w.heap.size w).alloc (ag _) o) h.lt
theorem eD.drew (h:eD w X xs t):eD w.drew X xs t:=h
theorem eD.cell (h:eD w X xs t) (i:Nat):w.cell? ⟨X,i,none⟩=xs[i]?:=by
 have:=cell_of_row w X i xs _ _ h;simpa using this
theorem eD.free (h:eD w X xs t) (i:Nat):w.frozen? ⟨X,i,none⟩=false:=cX w X i xs _ h
theorem eD.set (h:eD w X xs t) (i:Nat) (v:Value):eD (w.setCell ⟨X,i,none⟩ v) X (xs.setIfInBounds i v) t:=heap_setCell_same w X i xs _ _ h
theorem eD.other (h:eD w X xs t) (a:Addr) (v:Value) (ha:X≠a.block):eD (w.setCell a v) X xs t:=(cH w a v X ha).trans h
theorem eD.four {x0 x1 x2 x3:Value} (h:eD w X #[x0,x1,x2,x3] t):
  (w.cell? ⟨X,0,none⟩=some x0/\w.cell? ⟨X,1,none⟩=some x1/\w.cell? ⟨X,2,none⟩=some x2/\w.cell? ⟨X,3,none⟩=some x3)/\
  w.frozen? ⟨X,0,none⟩=false/\w.frozen? ⟨X,1,none⟩=false/\w.frozen? ⟨X,2,none⟩=false/\w.frozen? ⟨X,3,none⟩=false:=
 ⟨⟨h.cell 0,h.cell 1,h.cell 2,h.cell 3⟩,h.free 0,h.free 1,h.free 2,h.free 3⟩
theorem eD.tN {x0 x1 x2 x3:Value} (h:eD w X #[x0,x1,x2,x3] t) (y0 y1 y2 y3:Value):
  eD ((((w.setCell ⟨X,0,none⟩ y0).setCell ⟨X,1,none⟩ y1).setCell ⟨X,2,none⟩ y2).setCell ⟨X,3,none⟩ y3) X #[y0,y1,y2,y3] t:=by
 have:=(((h.set 0 y0).set 1 y1).set 2 y2).set 3 y3;simpa using this
theorem eY {P:Program} {fn:Func} {t0 u0:Tmp} {ty:TypeId} (h:fn.results=#[.cell t0 ty, .tmp u0]) (tmps:Array Value) (w:World) {a:Addr} {v:Value} (ht:tmps.getD t0 undef= .pointer (some a))
  (hl:(loadVar ty a).run P w= .ok v w):(results fn tmps).run P w= .ok (.tuple #[v,tmps.getD u0 undef]) w:=by
 have ht':tmps[t0]?.getD undef= .pointer (some a):=by simpa using ht
 simp [results,h,ht',asAddr,hl]
end
end
section
section
variable {α:Type} {k:Nat} {enc:α ->List Value}
def ee (k:Nat) (enc:α ->List Value) (w:World) (v:Value) (l:List α):Prop:=
 ∃a cap,v= .slice a l.length cap/\l.length <=cap/\cap <=maxLen/\∀i x,l[i]?=some x ->∃b off,a=some ⟨b,off,none⟩/\b < w.heap.size/\∀j u,(enc x)[j]?=some u ->w.cell? ⟨b,off+i*k+j,none⟩=some u
theorem ee.below {w w':World} {v:Value} {l:List α} (h:ee k enc w v l) (hb:Below w.heap.size w w'):ee k enc w' v l:=by
 obtain⟨a,cap,hv,h1,h2,h3⟩:=h;refine⟨a,cap,hv,h1,h2,fun i x hx=>?_⟩;obtain⟨b,off,ha,LD,hc⟩:=h3 i x hx;exact⟨b,off,ha,bo LD hb.size,fun j u hu=>by rw [hb.cell LD];exact hc j u hu⟩
theorem ee.nil (w:World):ee k enc w (.slice none 0 0) []:=⟨none,0,rfl,ag _,by simp [maxLen],by simp⟩
theorem jH (hk:∀x,(enc x).length=k) (l:List α):(l.flatMap enc).length=l.length*k:=by
 induction l with
 | nil=>simp
 | cons e l ih=>simp only [bL,ah,aE,ih,hk];rw [cS,Nat.one_mul,Nat.add_comm]
theorem rB (hk:∀x,(enc x).length=k):∀(l:List α) (i:Nat) (x:α) (j:Nat),l[i]?=some x ->j < k ->(l.flatMap enc)[i*k+j]?=(enc x)[j]?
 | [],i,x,j,h,_=>by simp at h
 | d::l,0,x,j,h,hj=>by
  simp at h;subst h;rw [bL,bE (by rw [hk];omega)];simp
 | d::l,i+1,x,j,h,hj=>by
  rw [bL,bA (by rw [hk,cS];omega)];rw [show(i+1)*k+j - (enc d).length=i*k+j from by rw [hk,cS];omega];exact rB hk l i x j (by simpa using h) hj
def dS (t:TypeId) (k:Nat) (enc:α ->List Value) (w:World) (B:Nat) (v:Value) (l:List α):Prop:=w.ownsRow B t k v l.length (l.flatMap enc)
variable {t:TypeId}
theorem dS.nil (w:World) (B:Nat):dS t k enc w B (.slice none 0 0) []:=World.ownsRow_nil w B _ _
theorem dS.keeps {w w':World} {S:Nat ->Prop} {B:Nat} {v:Value} {l:List α} (h:dS t k enc w B v l) (hk:dU S w w') (hs:∀k,ez v k ->¬ S k):dS t k enc w' B v l:=mj h hk hs
theorem dS.below {w w':World} {B:Nat} {v:Value} {l:List α} (h:dS t k enc w B v l) (hk:Below w.heap.size w w'):dS t k enc w' B v l:=
 mj h (dU.dW (S:=fun _=>False) hk) (fun _ _ h=>h)
theorem dS.fH {w:World} {B:Nat} {v:Value} {l:List α} (hk:∀x,(enc x).length=k) (h:dS t k enc w B v l):ee k enc w v l:=by
 obtain⟨hl,hv | ⟨g,cap,cur,hv,hb,hg,hn,hm,hs,ht⟩⟩:=h
 ·obtain⟨rfl,h0⟩:=hv
  obtain rfl:l=[]:=aH h0;exact ee.nil w
 ·refine⟨_,cap,hv,hn,hm,fun i x hx=>⟨g,0,rfl,(bZ.1 hg).1,fun j u hu=>?_⟩⟩
  have hj:j < k:=by rw [<- hk x];exact(aG.1 hu).1
  have hi:i < l.length:=(aG.1 hx).1;rw [cell_of_row w g _ cur _ _ hg,bR];have h1:=rB hk l i x j hx hj;rw [<- ht,cQ]at h1;have h2:i*k+j < l.length*k:=by
   have:(i+1)*k <=l.length*k:=cK _ hi;rw [cS]at this;omega
  rw [aD h2]at h1;rw [<- hu, <- h1];simp
theorem fb {P:Program} (w:World) {ops:Array Oper} {rest:List Oper} {o:Oper} {a:Act} {Q:Exit ->Act ->World ->Prop} (OP:o.guard=none) (s x:Operand) (ts:TypeId)
  (ho:o.op= .call {callee:= .builtin .append,args:=#[s,x],argTypes:=#[ts,ts]})
  (z:Value) (bytes:Nat) (ht:P.underlying ts=some (.slice t)) (hi:(P.info? t).map (fun i=>(i.zero,i.size,i.bytes))=some (some z,k,bytes)) (P5:z.cells.size=k) (h0:0 < k) (Nk:bytes <=100000000)
  (B:Nat) (v:Value) (l:List α) (hs:a.eval s=v) (Lu:dS t k enc w B v l)
  (y:α) (cs:Array Value) (hcs:cs=(enc y).toArray) (hk:(enc y).length=k) (h1:∀u∈enc y,u.oneCell'=true) (hx:a.eval x= .slice (some ⟨w.heap.size,0,none⟩) 1 1)
  (OU:l.length <=1000000) (LW:B <=w.heap.size)
  (h:∀v' w',dS t k enc w' B v' (l++[y]) ->dU (ez v) w w' ->eB w v v' ->wpList P ops Q rest (a.put o.dst v') w'):
  wpList P ops Q (o::rest) a (w.alloc (.cells cs t)):=by
 subst hcs;obtain⟨i0,hi,NM,ME,Nd⟩:=bV hi;refine sG (P:=P) w OP s x ts ho B t i0 z k bytes ht hi NM ME Nd P5 h0 v l.length (l.flatMap enc) hs Lu (enc y) hx (by omega) h1 (by simp only [maxLen];omega) ?_ LW ?_
 ·have:(l.length+1)*bytes <=1000001*100000000:=Nat.mul_le_mul (by omega) Nk
  omega
 ·intro v' w' h2 h3 h4
  refine h v' w' ?_ h3 h4;simpa [dS] using h2
end
theorem ee.keeps {α:Type} {k:Nat} {enc:α ->List Value} {w w':World} {v:Value} {l:List α} {S:Nat ->Prop} (h:ee k enc w v l) (hk:dU S w w') (hs:∀a n cap,v= .slice (some a) n cap ->¬ S a.block):ee k enc w' v l:=by
 obtain⟨a,cap,hv,h1,h2,h3⟩:=h;refine⟨a,cap,hv,h1,h2,fun i x hx=>?_⟩;obtain⟨b,off,ha,LD,hc⟩:=h3 i x hx;refine⟨b,off,ha,bo LD hk.size,fun j u hu=>?_⟩;rw [aX (w:=w) (a:=⟨b,off+i*k+j,none⟩) (hk.block b LD (by rw [hv,ha]at hs;exact hs _ _ _ rfl))];exact hc j u hu
theorem dS.block {α:Type} {t:TypeId} {k:Nat} {enc:α ->List Value} {w:World} {B:Nat} {u:Value} {l:List α} (h:dS t k enc w B u l):∀a n cap,u= .slice (some a) n cap ->B <=a.block/\a.block < w.heap.size:=by
 intro a n cap he;obtain⟨_,⟨hv,_⟩ | ⟨g,LQ,cur,hv,hb,hg,_⟩⟩:=h
 ·rw [hv]at he;cases he
 ·rw [hv]at he
  injection he with e1 e2 e3;injection e1 with e1;subst e1;exact⟨hb,(bZ.1 hg).1⟩
end
section
section
variable {α β:Type} {k:Nat} {enc:α × β ->List Value} {inner:World ->α ->β ->Prop}
def ef (k:Nat) (enc:α × β ->List Value) (inner:World ->α ->β ->Prop) (w:World) (v:Value) (l:List α):Prop:=
 ∃us:List β,us.length=l.length/\ee k enc w v (l.zip us)/\∀(i:Nat) (x:α) (u:β),l[i]?=some x ->us[i]?=some u ->inner w x u
theorem ef.below {w w':World} {v:Value} {l:List α} (h:ef k enc inner w v l) (hb:Below w.heap.size w w') (hi:∀x u,inner w x u ->inner w' x u):ef k enc inner w' v l:=by
 obtain⟨us,h1,h2,h3⟩:=h;exact⟨us,h1,h2.below hb,fun i x u hx hu=>hi x u (h3 i x u hx hu)⟩
theorem ef.nil (w:World):ef k enc inner w (.slice none 0 0) []:=⟨[],rfl,ee.nil w,by simp⟩
theorem ef.slice {w:World} {v:Value} {l:List α} (h:ef k enc inner w v l):∃a cap,v= .slice a l.length cap/\l.length <=cap/\cap <=9223372036854775807:=by
 obtain⟨us,h1,⟨a,cap,hv,h2,h3,_⟩,_⟩:=h;have:(l.zip us).length=l.length:=by rw [bS,h1,cP]
 rw [this]at hv h2;exact⟨a,cap,hv,h2,h3⟩
theorem ef.get {w:World} {a:Option Addr} {n cap:Nat} {l:List α} (h:ef k enc inner w (.slice a n cap) l) {i:Nat} {x:α} (hx:l[i]?=some x):
  ∃b off u,a=some ⟨b,off,none⟩/\b < w.heap.size/\(∀j v,(enc (x,u))[j]?=some v ->w.cell? ⟨b,off+i*k+j,none⟩=some v)/\inner w x u:=by
 obtain⟨us,h1,⟨a',LQ,hv,_,_,h2⟩,h3⟩:=h;injection hv with e1 e2 e3;subst e1;obtain⟨u,hu⟩:∃u,us[i]?=some u:=⟨_,aq (by rw [h1];exact(aG.1 hx).1)⟩;obtain⟨b,off,ha,LD,hc⟩:=h2 i (x,u) ((cR (z:=(x,u))).2 ⟨hx,hu⟩);exact⟨b,off,u,ha,LD,hc,h3 i x u hx hu⟩
end
end
def ju:Nat ->Nat ->List UInt8
 | 0,_=>[]
 | f+1,n=>if n < 128 then [b8 n]else b8 (n %128+128)::ju f (n/128)
def eO (n:Nat):List UInt8:=ju 10 n
def J3 (xs:List UInt8) (u:Nat) (B:Nat) (b:Value) (w w':World) (v:Value) (n:Nat):Prop:=
 ∃(ys:List UInt8) (k f:Nat),ed w' B v ys/\dU (ez b) w w'/\eB w b v/\ys.length <=xs.length+k/\k+f=9/\n < 2*128^f/\ys++ju (f+1) n=xs++ju 10 u
def IE (xs:List UInt8) (u:Nat) (B:Nat) (b:Value) (w:World) (e:Ending) (w':World):Prop:=
 ∃v,e= .returned v/\ed w' B v (xs++eO u)/\dU (ez b) w w'/\eB w b v
theorem JM (n:Nat):bits .or .u8 ((n:Int) %256) 128=((b8 (n %128+128)).toNat:Int):=by
 have h:=uB (n %256) (by omega);rw [show n %256 %128=n %128 from by omega]at h;rw [gC (by omega), <- h];rfl
theorem iP (b:Value) (xs:List UInt8) (u:Nat) (h1:u < 18446744073709551616) (B:Nat) (w:World) (Lu:ed w B b xs) (hn:xs.length <=1000000000) (hB:B <=w.heap.size):
  Calls prog 270 #[b, .int .u64 u] w (IE xs u B b w):=by
 go_enter func270,ntmps270;go_wp2;refine jS 0 (fun a' w'=>∃(v:Value) (n:Nat) (u5 u6 u7 u8 u9 u10 Rj QD Rk Rl Rm u16 Rn Ro Rp:Value),a'={tmps:=#[v, .int .u64 n,undef,undef, .slice none 0 0,u5,u6,u7,u8,u9,u10,Rj,QD,Rk,Rl,Rm,u16,Rn,Ro,Rp],defers:=[]}/\J3 xs u B b w w' v n) (fun a' _=>(intOf (a'.tmps.getD 1 undef)).toNat) rfl ?_ ?_
 ·rintro a' w1 ⟨v,n,u5,u6,u7,u8,u9,u10,Rj,QD,Rk,Rl,Rm,u16,Rn,Ro,Rp,rfl,hJ⟩
  obtain⟨ys,k,f,OH,hk,hs,hlen,hkf,hnf,heq⟩:=hJ;have HE:=V heq;have HK:=V hkf;have hk9:k <=9:=by omega
  clear heq hkf Lu;have Mq:=hk.size;by_cases LD:n < 128
  ·go_wp2_with (first | (at_builtin;refine eT w1 rfl _ _ rfl rfl B v ys rfl OH (b8 n) _ ?_ rfl ?_ ?_ ?_))
   ·rw [gC (by omega)]
   ·omega
   ·omega
   ·intro v' w2 L4 LH LL
    go_wp2;rw [iy];go_ret;refine⟨v',rfl,?_,hk.trans LH ?_,hs.trans LL Mq⟩
    ·have h:=HE.out
     rw [ju,aD LD]at h;rw [eO, <- h];exact L4
    ·exact fun i hi=>hs i hi
  ·go_wp2_with (first | (at_builtin;refine eT w1 rfl _ _ rfl rfl B v ys rfl OH (b8 (n %128+128)) _ (JM n) rfl ?_ ?_ ?_))
   ·omega
   ·omega
   ·intro v' w2 L4 LH LL
    go_wp2
    go_step3
    have hf:f≠0:=by
     rintro rfl;omega
    obtain⟨f',rfl⟩:∃f',f=f'+1:=⟨f - 1,by omega⟩;have hnq:((n:Int)/128)=((n/128:Nat):Int):=by omega
    rw [hnq];refine lk ⟨v',n/128,_,_,_,_,_,_,_,_,_,_,_,_,_,_,_,rfl,ys++[b8 (n %128+128)],k+1,f',L4,hk.trans LH (fun i hi=>hs i hi),hs.trans LL Mq,?_,?_,?_,?_⟩ ?_
    ·simp
     omega
    ·have:=HK.out
     omega
    ·rw [Nat.pow_succ]at hnf
     omega
    ·have h:=HE.out
     rw [ju,az LD]at h;rw [<- h];simp
    ·simp [intOf]
     omega
 ·intro H
  apply wp_seq_k;intro K hK;apply wp_label;apply hK;exact H _ _ ⟨b,u,_,_,_,_,_,_,_,_,_,_,_,_,_,_,_,rfl,xs,0,9,Lu,dU.refl _ _,eB.refl _ _,by omega,rfl,by omega,rfl⟩
def cont:List UInt8 ->Nat
 | []=>0
 | x::l=>if 128 <=x.toNat then cont l+1 else 0
theorem xR:∀l:List UInt8,cont l <=l.length
 | []=>ag _
 | x::l=>by
  have:=xR l;simp only [cont,aE];split <;>omega
theorem CL:∀(l:List UInt8) (i:Nat) (x:UInt8),l[i]?=some x ->i < cont l ->128 <=x.toNat
 | [],i,x,h,_=>by simp at h
 | y::l,0,x,h,hi=>by
  simp at h;subst h;simp only [cont]at hi;split at hi
  ·assumption
  ·omega
 | y::l,i+1,x,h,hi=>by
  simp only [cont]at hi;split at hi
  ·exact CL l i x (by simpa using h) (by omega)
  ·omega
theorem CJ:∀(l:List UInt8) (x:UInt8),l[cont l]?=some x ->x.toNat < 128
 | [],x,h=>by simp at h
 | y::l,x,h=>by
  simp only [cont]at h;split at h
  ·exact CJ l x (by simpa using h)
  ·rename_i hy
   simp at h;subst h;omega
def eW (bits:Int) (l:List UInt8):Nat × Int:=
 if bits < 1\/64 < bits then(0,3)
 else if(bits+6)/7 <=cont l then(0,1)
 else if cont l=l.length then(0,2)
 else(cont l+1,0)
def JY (bits:Int) (l:List UInt8) (w:World) (e:Ending) (w':World):Prop:=
 e= .returned (.tuple #[.int .i64 (eW bits l).1, .int .i64 (eW bits l).2])/\w=w'
def K3 (l:List UInt8) (ff:Nat) (w w':World) (n:Nat):Prop:=w'=w/\n <=ff/\n <=cont l
theorem mD (b:Value) (l:List UInt8) (bits:Int) (w:World) (hb:eG w b l) (LG: -9223372036854775808 <=bits) (Lw:bits <=9223372036854775807):
  Calls prog 281 #[b, .int .i64 bits] w (JY bits l w):=by
 obtain⟨a,cap,rfl,hl,hm,hc⟩:=hb;unfold maxLen at hm;have HC:=V hc;clear hc;by_cases h1:bits < 1
 ·go_enter func281,ntmps281
  go_wp2
  go_step3
  go_wp2;rw [Exit.noGoto_ret]
  go_ret2
  exact⟨by rw [eW,aD (.inl h1)];rfl,rfl⟩
 by_cases h2:64 < bits
 ·go_enter func281,ntmps281
  go_wp2
  go_step3
  go_wp2;rw [Exit.noGoto_ret]
  go_ret2
  exact⟨by rw [eW,aD (.inr h2)];rfl,rfl⟩
 have QE:=xR l;obtain⟨q,hq⟩:∃q:Nat,(q:Int)=(bits+6)/7:=⟨((bits+6)/7).toNat,by omega⟩;have hq0:1 <=q:=by omega
 have hq1:q <=10:=by omega
 have HQ:=V hq;clear hq;go_enter func281,ntmps281;go_wp2;refine jS 0 (fun a' w'=>∃(n:Nat) (u8 u9 u10 Rj QD Rk Rl Rm u16 Rn Ro Rp u20 u21 u22 u23 u24 u25 u26 u27 u28 u29 u30 u31 u32 u33 u34 u35 u36:Value),a'={tmps:=#[.slice a l.length cap, .int .i64 bits,undef,undef, .int .i64 0, .int .i64 0, .int .i64 n, .int .i64 q,u8,u9,u10,Rj,QD,Rk,Rl,Rm,u16,Rn,Ro,Rp,u20,u21,u22,u23,u24,u25,u26,u27,u28,u29,u30,u31,u32,u33,u34,u35,u36],defers:=[]}/\K3 l q w w' n) (fun a' _=>(q - (intOf (a'.tmps.getD 6 undef)).toNat)) rfl ?_ ?_
 ·rintro a' w1 ⟨n,u8,u9,u10,Rj,QD,Rk,Rl,Rm,u16,Rn,Ro,Rp,u20,u21,u22,u23,u24,u25,u26,u27,u28,u29,u30,u31,u32,u33,u34,u35,u36,rfl,hJ⟩
  obtain⟨rfl,hn,hnc⟩:=hJ;by_cases e1:n=q
  ·subst e1
   go_wp2;rw [iy]
   go_ret2
   exact⟨by rw [eW,az (by omega),aD (by have:=HQ.out;omega)];rfl,rfl⟩
  have b1:=dR (a:=(n:Int)) (b:=(q:Int)) (by omega);by_cases e2:n=l.length
  ·subst e2
   go_wp2;rw [iy]
   go_ret2
   exact⟨by rw [eW,az (by omega),az (by have:=HQ.out;omega),aD (by omega)];rfl,rfl⟩
  have b2:=dR (a:=(n:Int)) (b:=(l.length:Int)) (by omega);obtain⟨x,hx⟩:∃x,l[n]?=some x:=⟨_,aq (show n < l.length by omega)⟩;obtain⟨b,off,rfl,hc⟩:=HC.out n x hx;have hx8:=x.toNat_lt;have HX:=V hx;clear hx;have LD:n < l.length:=by omega
  by_cases e3:128 <=x.toNat
  ·have hnc':n < cont l:=by
    rcases bx n (cont l)with h | h
    ·exact h
    ·obtain rfl:n=cont l:=by omega
     have:=CJ l x HX.out;omega
   go_wp2
   go_step3
   simp only [Exit.inBlock,Exit.then];refine lk ⟨n+1,_,_,_,_,_,_,_,_,_,_,_,_,_,_,_,_,_,_,_,_,_,_,_,_,_,_,_,_,_,rfl,rfl,by omega,by omega⟩ ?_;simp [intOf];omega
  ·have hnc':n=cont l:=by
    rcases bx n (cont l)with h | h
    ·have:=CL l n x HX.out h
     omega
    ·omega
   have HN:=V hnc';clear hnc';go_wp2;rw [iy]
   go_ret2
   refine⟨?_,rfl⟩;have:=HN.out;have:=HQ.out;rw [eW,az (by omega),az (by omega),az (by omega), <- HN.out]
   go_num
 ·intro H
  have Hh:=V H;clear H;go_wp2
  go_step3
  go_step
  go_step
  have e7:(bits+7 - 1)/7=(q:Int):=by have:=HQ.out;omega
  rw [e7];refine Hh.out _ _ ⟨0,_,_,_,_,_,_,_,_,_,_,_,_,_,_,_,_,_,_,_,_,_,_,_,_,_,_,_,_,_,rfl,rfl,by omega,by omega⟩
def IU (l m:List UInt8) (w:World) (e:Ending) (w':World):Prop:=e= .returned (.bool (l==m))/\w=w'
theorem lF (a b:Value) (l m:List UInt8) (w:World) (ha:eG w a l) (hb:eG w b m):
  Calls prog 282 #[a,b] w (IU l m w):=by
 have h1:=pO ha;have h2:=pO hb;clear ha hb;go_enter func282,ntmps282;go_wp2;go_ret;exact⟨by rw [kU,kU];rfl,rfl⟩
section
def nth {α:Type}:List α ->Nat ->Option α
 | [],_=>none
 | x::_,0=>some x
 | _::l,n+1=>nth l n
theorem nU {α:Type}:∀(l:List α) (n:Nat),nth l n=l[n]?
 | [],_=>by simp [nth]
 | x::l,0=>by simp [nth]
 | x::l,n+1=>by simp [nth,nU l n]
def isVal:Op ->Bool
 | .move _ | .assign _ | .pick .. | .binOp .. | .unOp .. | .convert .. | .slice .. | .fieldAddr .. | .field .. | .indexAddr .. | .index .. | .extract .. | .load .. | .makeInterface .. | .nilCheck _ | .build .. =>true
 | .call {callee:= .builtin .len, .. }=>true
 | _=>false
theorem mm {P:Program} {ρ:Operand ->Value} {o:Oper} (h:isVal o.op=true) (w:World):
  (∃v w',(execOp ρ o).run P w= .ok (.value v) w')\/(∃x w',(execOp ρ o).run P w= .halt x w'):=by
 have key:∀s:Sem Value,(∃v w',(do pure (Next.value (<- s)):Sem Next).run P w= .ok (.value v) w')\/(∃x w',(do pure (Next.value (<- s)):Sem Next).run P w= .halt x w'):=by
  intro s;rw [cG];cases hs:s.run P w with
  | ok v w'=>exact .inl ⟨v,w',by simp [bX]⟩
  | halt x w'=>exact .inr ⟨x,w',by simp⟩
 obtain⟨dst,op,type,pos,after,guard⟩:=o;cases op <;>simp only [isVal,bW]at h <;>simp only [execOp]
 all_goals first
  | exact key _
  | exact .inl ⟨_,_,by rw [bX]⟩
  | skip
 case pick c a b=>
  rw [cG];cases hs:(asBool (ρ c)).run P w with
  | ok v w'=>exact .inl ⟨_,w',by simp only [cz];rw [bX]⟩
  | halt x w'=>exact .inr ⟨x,w',by simp⟩
 case nilCheck x=>
  have hp:∃x w',(runtimePanic .nilDeref:Sem Next).run P w= .halt x w':=⟨_,w,by simp [runtimePanic,goPanic,go_sem];rfl⟩;cases ρ x with
  | pointer a=>cases a <;>first | exact .inr hp | exact .inl ⟨_,_,by rw [bX]⟩
  | nilIface=>exact .inr hp
  | nilFunc=>exact .inr hp
  | func fn first captured=>
   cases fn with
   | method name=>
    dsimp only;split
    ·exact .inr hp
    ·rename_i t v _
     rw [cG];cases hs:(program:Sem Program).run P w with
     | ok p w1=>
      simp only [cz];rw [cG];cases hs:(nilAhead (p.types.size+Made.depth) t v name).run P w1 with
      | ok r w2=>
       simp only [cz];split
       ·rw [cG]
        exact .inr ⟨_,_,rfl⟩
       ·exact .inl ⟨_,_,by simp only [bX];rfl⟩
      | halt x w2=>exact .inr ⟨x,w2,by simp⟩
     | halt x w1=>exact .inr ⟨x,w1,by simp⟩
    ·exact .inl ⟨_,_,by rw [bX]⟩
   | _=>exact .inl ⟨_,_,by rw [bX]⟩
  | _=>exact .inl ⟨_,_,by rw [bX]⟩
 case call c=>
  obtain⟨callee,args,ats⟩:=c;cases callee with
  | builtin b=>
   cases b <;>simp only [bW]at h;simp only [resolve,cG,bX,cz,invoke,builtin];cases hs:(Builtin.len_ ats type (args.map ρ)).run P w with
   | ok v w'=>exact .inl ⟨v,w',by simp⟩
   | halt x w'=>exact .inr ⟨x,w',by simp⟩
  | value f=>simp only [bW]at h
  | invoke r m=>simp only [bW]at h
def Ky:List Value ->Nat ->Value
 | [],_=>undef
 | x::_,0=>x
 | _::l,n+1=>Ky l n
def slot (a:Act) (i:Nat):Value:=Ky a.tmps.toList i
def fr (l:List Value):Act:={tmps:=l.toArray,defers:=[]}
def gs (a:Act):Nat ->Nat ->List Value ->List Value
 | _,0,l=>l
 | i,n+1,l=>slot a i::gs a (i+1) n l
def kM (ops:List Oper) (g:Option (Nat × Bool)) (a:Act):Bool:=
 match g with
 | none=>true
 | some (j,want)=>match nth ops j with
  | some o=>match o.dst with
   | some d=>match nth a.tmps.toList d with
    | some (.bool b)=>b==want
    | _=>false
   | none=>false
  | none=>false
theorem mf (ops:Array Oper) (o:Oper) (a:Act):Region.wanted o (yielded ops a.tmps)=kM ops.toList o.guard a:=by
 unfold Region.wanted kM;cases o.guard with
 | none=>rfl
 | some g=>
  obtain⟨j,want⟩:=g;simp only [yielded,nU,cA];cases ops[j]? with
  | none=>rfl
  | some o'=>
   simp only [ao];cases o'.dst with
   | none=>rfl
   | some d=>
    simp only [ao];cases a.tmps[d]? with
    | none=>rfl
    | some v=>cases v <;>rfl
def C4 (a':Act) (w':World) (e:Exit) (a:Act) (w:World):Prop:=e= .normal/\a=a'/\w=w'
def nT (Q:Exit ->Act ->World ->Prop) (S:World ->Prop) (K:Act ->World ->Prop):Exit ->Act ->World ->Prop
 | .normal,a,w=>S w/\K a w
 | .panic _,_,_=>False
 | e,a,w=>Q e a w
def bare (o:Oper):Oper:={o with guard:=none,after:=#[]}
def iH (P:Program) (ops:List Oper) (Q:Exit ->Act ->World ->Prop) (S:World ->Prop):List (Nat × Bool) ->Act ->World ->Prop
 | [],a,w=>Q .normal a w
 | (i,true)::rest,a,w=>∃o,nth ops i=some o/\
   ((kM ops o.guard a=true/\∃d,o.dst=some d/\d < a.tmps.size/\∃a',(∀w',S w' ->wpList P #[] (C4 a' w') [bare o] a w')/\iH P ops Q S rest a' w)\/
    (kM ops o.guard a=false/\iH P ops Q S rest (a.put o.dst undef) w))
 | (i,false)::rest,a,w=>∃o,nth ops i=some o/\
   ((kM ops o.guard a=true/\wpList P #[] (nT Q S (iH P ops Q S rest)) [bare o] a w)\/
    (kM ops o.guard a=false/\iH P ops Q S rest (a.put o.dst undef) w))
def tC (ops:Array Oper):List (Nat × Bool) ->Array Bool ->Bool
 | [],listed=>(Region.ready .any ops listed).isEmpty
 | (i,true)::rest,listed=>(ops[i]?.any fun o=>isVal o.op)&&(Region.ready .any ops listed).contains i&&Region.free .any ops listed i&&tC ops rest (listed.setIfInBounds i true)
 | (i,false)::rest,listed=>(Region.ready .any ops listed==[i])&&tC ops rest (listed.setIfInBounds i true)
theorem iA (ρ:Operand ->Value) (o:Oper):execOp ρ (bare o)=execOp ρ o:=rfl
theorem lZ {P:Program} {Q:Exit ->Act ->World ->Prop} {o:Oper} {a:Act} {w:World} (h:wpList P #[] Q [bare o] a w):
  (bare o).wp P a w (Q .normal) Q\/((bare o).asks P a w/\LetsOut Q):=by
 unfold wpList at h;rw [aD (by simp [Region.wanted,bare])]at h;exact h
theorem mS {P:Program} {ops:Array Oper} {Q:Exit ->Act ->World ->Prop} {S:World ->Prop} (hQ:∀c a w,¬ Q (.panic c) a w) (hs:Region.noSelect ops=true):
  ∀(l:List (Nat × Bool)) (fuel:Nat) (listed:Array Bool) (a:Act) (w:World),l.length <=fuel ->tC ops l listed=true ->S w ->
   iH P ops.toList Q S l a w ->wpAnyH P .any ops Q S fuel listed a w
 | [],fuel,listed,a,w,_,LF,_,h=>by
  simp only [tC,List.isEmpty_iff]at LF;exact wpAnyH_done LF h fuel
 | (i,true)::rest,0,_,_,_,hl,_,_,_=>by simp at hl
 | (i,false)::rest,0,_,_,_,hl,_,_,_=>by simp at hl
 | (i,true)::rest,fuel+1,listed,a,w,hl,LF,hS,h=>by
  simp only [tC,bG]at LF;obtain⟨⟨⟨hv,hr⟩,hf⟩,Mn⟩:=LF;simp only [aE]at hl;obtain⟨o,ho,h⟩:=h;rw [nU,cA]at ho;rw [ho]at hv;simp only [Option.any_some]at hv;rcases h with⟨hg,d,hd,hds,a',hp,hk⟩ | ⟨hg,hk⟩
  ·refine wpAnyH_take (v:=a'.tmps.getD d undef) ho hs hf hr (fun c a w h=>(hQ _ _ _ h).elim) (.inl ⟨by rw [mf];exact hg,fun w' hw'=>?_⟩) hS ?_
   ·rcases lZ (hp w' hw')with h1 | ⟨_,h2⟩
    ·unfold Oper.wp at h1
     rw [iA]at h1;rcases mm (P:=P) (ρ:=a.eval) hv w' with⟨v,w2,LJ⟩ | ⟨x,w2,LJ⟩
     ·rw [LJ]at h1⊢
      obtain⟨_,h3,h4⟩:=h1;subst h4;subst h3;have:(bare o).dst=some d:=hd;rw [this];simp [Act.put,hds]
     ·rw [LJ]at h1
      cases x <;>simp only [Oper.upon]at h1
      case panic=>exact absurd h1.1 (by simp)
    ·obtain⟨_,_,h3,_⟩:=h2
     exact absurd h3 (by simp)
   ·have ha:a.put o.dst (a'.tmps.getD d undef)=a':=by
     rcases lZ (hp w hS)with h1 | ⟨_,h2⟩
     ·unfold Oper.wp at h1
      rw [iA]at h1;rcases mm (P:=P) (ρ:=a.eval) hv w with⟨v,w2,LJ⟩ | ⟨x,w2,LJ⟩
      ·rw [LJ]at h1
       obtain⟨_,h3,h4⟩:=h1;have hd':(bare o).dst=some d:=hd;rw [<- h3,hd',hd];simp [Act.put,hds]
      ·rw [LJ]at h1
       cases x <;>simp only [Oper.upon]at h1
       case panic=>exact absurd h1.1 (by simp)
     ·obtain⟨_,_,h3,_⟩:=h2
      exact absurd h3 (by simp)
    rw [ha];exact mS hQ hs rest fuel _ _ _ (by omega) Mn hS hk
  ·refine wpAnyH_take (v:=undef) ho hs hf hr (fun c a w h=>(hQ _ _ _ h).elim) (.inr ⟨by rw [mf];exact hg,rfl⟩) hS ?_
   exact mS hQ hs rest fuel _ _ _ (by omega) Mn hS hk
 | (i,false)::rest,fuel+1,listed,a,w,hl,LF,hS,h=>by
  simp only [tC,bG,dB]at LF;obtain⟨hr,Mn⟩:=LF;simp only [aE]at hl;obtain⟨o,ho,h⟩:=h;rw [nU,cA]at ho;refine wpAnyH_all hr (by simp) fun j hj=>?_;obtain rfl:j=i:=by simpa using hj
  unfold wpOp;simp only [ho];rw [mf];rcases h with⟨hg,hw⟩ | ⟨hg,hk⟩
  ·rw [aD hg]
   have MH:∀a' w',nT Q S (iH P ops.toList Q S rest) .normal a' w' ->S w'/\wpAnyH P .any ops Q S fuel (listed.setIfInBounds j true) a' w':=
    fun a' w' h=>⟨h.1,mS hQ hs rest fuel _ _ _ (by omega) Mn h.1 h.2⟩
   have OI:LetsOut (nT Q S (iH P ops.toList Q S rest)) ->LetsOut Q:=fun⟨a,w,h⟩=>⟨a,w,h⟩;rcases lZ hw with h1 | ⟨h1,h2⟩
   ·left
    unfold Oper.wp at h1⊢;rw [iA]at h1;generalize(execOp a.eval o).run P w=r at*;cases r with
    | ok n w'=>
     cases n <;>simp only [Oper.upon]at h1⊢
     case value=>exact MH _ _ h1
     case skip=>exact MH _ _ h1
     case defer=>exact MH _ _ h1
     case enter=>
      refine bY h1 fun e w'' he=>?_;cases e with
      | returned v=>exact MH _ _ he
      | panicked c=>exact he.elim
      | outgrown=>exact OI he
     case row=>exact Rows.mono h1 fun v w'' he=>MH _ _ he
    | halt x w'=>
     cases x <;>simp only [Oper.upon]at h1⊢
     case panic=>exact h1.elim
   ·exact .inr ⟨h1,OI h2⟩
  ·rw [az (by rw [hg];simp)]
   exact⟨hS,mS hQ hs rest fuel _ _ _ (by omega) Mn hS hk⟩
theorem ea {P:Program} {ops:List Oper} {Q:Exit ->Act ->World ->Prop} {id:Nat} {a:Act} {w:World} (S:World ->Prop) (l:List (Nat × Bool)) (hm:P.follows .mixedOrders=true)
  (LF:(tC ops.toArray l (Array.replicate ops.length false)&&Region.noSelect ops.toArray&&decide (l.length <=ops.length))=true) (hS:S w.drew)
  (h:iH P ops (NoPanic Q) S l a w.drew):(Code.region id ops.toArray true).wp P Q a w:=by
 simp only [bG,cW]at LF;obtain⟨⟨LF,hn⟩,hl⟩:=LF;refine wp_region_noPanic (wp_region_held (S:=S) hm ?_);refine mS (S:=S) (fun c a w h=>h) hn l _ _ a _ ?_ ?_ hS ?_
 ·simpa using hl
 ·simpa using LF
 ·simpa using h
section
variable {P:Program} {ops:List Oper} {Q:Exit ->Act ->World ->Prop} {S:World ->Prop} {i:Nat} {rest:List (Nat × Bool)} {a:Act} {w:World} {d:Tmp} {op:Op} {t:TypeId} {p:String} {af:Array Edge} {g:Option (Nat × Bool)}
theorem eC {c:Code} (J:Act ->World ->Prop) (μ:Act ->World ->Nat) (h0:J a w)
  (round:∀(R:Act ->World ->Prop) a w,J a w ->Hid (∀a' w',J a' w' ->μ a' w' < μ a w ->R a' w') ->c.wp P (Exit.then R Q) a w):(Code.loop c).wp P Q a w:=
 wp_loop J μ h0 fun a w hJ=>round _ a w hJ (fun _ _ h1 h2=>⟨h1,h2⟩)
theorem wp_cut {c:Code} (K:Act ->World ->Prop) (h1:c.wp P (fun e a w=>e= .normal/\K a w) a w) (h2:∀a w,K a w ->Q .normal a w):c.wp P Q a w:=
 Code.wp_mono (fun e a w h=>by rw [h.1];exact h2 a w h.2) h1
theorem dV (hi:nth ops i=some ⟨some d,op,t,p,af,g⟩) (hg:kM ops g a=true) (hd:Nat.ble (d+1) a.tmps.size=true) {a':Act} (hp:∀w',S w' ->wpList P #[] (C4 a' w') [⟨some d,op,t,p,#[],none⟩] a w')
  (h:iH P ops Q S rest a' w):iH P ops Q S ((i,true)::rest) a w:=
 ⟨_,hi, .inl ⟨hg,d,rfl,Nat.le_of_ble_eq_true hd,a',hp,h⟩⟩
theorem FF {b:Bool} {dst:Option Tmp} (hi:nth ops i=some ⟨dst,op,t,p,af,g⟩) (hg:kM ops g a=false) (h:iH P ops Q S rest (a.put dst undef) w):iH P ops Q S ((i,b)::rest) a w:=by
 cases b
 ·exact⟨_,hi, .inr ⟨hg,h⟩⟩
 ·exact⟨_,hi, .inr ⟨hg,h⟩⟩
theorem dZ {dst:Option Tmp} (hi:nth ops i=some ⟨dst,op,t,p,af,g⟩) (hg:kM ops g a=true) (h:wpList P #[] (nT Q S (iH P ops Q S rest)) [⟨dst,op,t,p,#[],none⟩] a w):iH P ops Q S ((i,false)::rest) a w:=
 ⟨_,hi, .inl ⟨hg,h⟩⟩
def up:Nat ->Nat ->List (Nat × Bool) ->List (Nat × Bool)
 | _,0,l=>l
 | i,n+1,l=>(i,true)::up (i+1) n l
theorem eF (h:Q .normal a w):iH P ops Q S [] a w:=h
def pt:List Value ->Option Tmp ->List Value
 | l,none=>l
 | [],_=>[]
 | _::l,some 0=>undef::l
 | x::l,some (n+1)=>x::pt l (some n)
theorem JD (l:List Value) (n:Nat):pt l (some n)=l.set n undef:=by
 induction l generalizing n with
 | nil=>cases n <;>rfl
 | cons x l ih=>cases n with
  | zero=>rfl
  | succ n=>simp [pt,ih]
theorem JW (l:List Value) (d:Option Tmp):Act.put {tmps:=l.toArray,defers:=[]} d undef={tmps:=(pt l d).toArray,defers:=[]}:=by
 cases d with
 | none=>cases l <;>rfl
 | some n=>rw [JD];simp [Act.put]
theorem sk {b:Bool} {dst:Option Tmp} {l:List Value} (hi:nth ops i=some ⟨dst,op,t,p,af,g⟩) (hg:kM ops g {tmps:=l.toArray,defers:=[]}=false) (h:iH P ops Q S rest {tmps:=(pt l dst).toArray,defers:=[]} w):iH P ops Q S ((i,b)::rest) {tmps:=l.toArray,defers:=[]} w:=
 FF hi hg (by rw [JW];exact h)
end
end
end Go.Proofs.YtjmeglibedbljaaGreatDoor
