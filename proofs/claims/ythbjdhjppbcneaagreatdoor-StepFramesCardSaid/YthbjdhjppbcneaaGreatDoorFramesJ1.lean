import Derived.Test.YthbjdhjppbcneaaGreatDoorProg
import Derived.WalkKit
import Derived.WalkSpells
import Derived.WalkLawsBesides
import Derived.OwnWalk
import Derived.Outline
import Derived.ScopeJumps
import Derived.Lib.Hide
import Derived.Below
import Derived.Deep.RegionWith
import Derived.Deep.QuietTactic
import Derived.BigQuiet
import Derived.OrdersHeld
import Derived.Deep.RegionHeld3
namespace Go.Proofs.YthbjdhjppbcneaaGreatDoor
set_option maxRecDepth 100000
set_option maxHeartbeats 20000000
open Go.RowKit Tryz
open Lib renaming hid->V
set_option linter.all false
def ag:=@Nat.le_refl
def ah:=@List.length_append
def an:=@Go.RowKit.Below.refl
def aq:=@List.getElem?_eq_getElem
def aw:=@Option.bind_some
def az:=@decide_eq_false
def aA:=@decide_eq_true
def aB:=@List.length_singleton
def aC:=@if_neg
def aD:=@Go.NoPanic.normal
def aE:=@Go.World.size_alloc
def aF:=@List.getElem?_cons_zero
def aG:=@List.getElem?_toArray
def aH:=@List.eq_nil_of_length_eq_zero
def aI:=@List.length_cons
def aJ:=@if_pos
def aK:=@List.length_nil
def aL:=@Nat.add_zero
def aM:=@Go.bodyPost_ret
def aN:=@List.getElem?_eq_some_iff
def aO:=@List.mem_of_getElem?
def aP:=@List.append_assoc
def aQ:=@List.take_add_one
def aR:=@List.getElem?_cons_succ
def aS:=@List.length_take
def aT:=@Go.World.block_lt_of_cell?
def aU:=@List.take_length
def aV:=@List.mem_singleton
def aW:=@Nat.le_trans
def aX:=@Option.some.injEq
def aY:=@List.length_replicate
def aZ:=@Nat.eq_zero_or_pos
def bg:=@List.getElem?_append_right
def bj:=@List.setIfInBounds_toArray
def bm:=@Go.World.cell?_of_block
def bo:=@Nat.mul_one
def bp:=@Go.run_underlying
def bq:=@List.length_drop
def bu:=@List.getElem?_append_left
def bx:=@List.mem_append
def bz:=@Option.map_eq_some_iff
def bA:=@List.map_cons
def bB:=@List.mem_cons
def bC:=@Nat.lt_or_ge
def bD:=@List.set_cons_succ
def bE:=@Option.map_some
def bF:=@List.set_cons_zero
def bG:=@List.length_zip
def bH:=@Nat.lt_of_lt_of_le
def bI:=@List.cons_append
def bJ:=@List.not_mem_nil
def bK:=@Nat.zero_le
def bL:=@List.nil_append
def bM:=@Bool.and_eq_true
def bN:=@List.length_map
def bO:=@List.append_nil
def bP:=@List.flatMap_cons
def bQ:=@Go.World.cell?_alloc_new
def bR:=@Go.Lib.run_eql_slice_nil
def bS:=@List.flatten_cons
def bT:=@List.not_any_eq_all_not
def bU:=@Int.pow_succ
def bV:=@Go.Calls.mono
def bW:=@Nat.zero_add
def bX:=@Go.info_parts
def bY:=@Go.run_loadVar_row
def bZ:=@Nat.min_self
def cd:=@Go.Sem.run_pure
def cg:=@Array.getElem?_eq_some_iff
def cm:=@Bool.true_and
def cn:=@List.map_append
def cq:=@List.drop_eq_getElem_cons
def ct:=@Go.World.cell?_setCell_other
def cz:=@Go.Result.andThen_ok
def cA:=@Array.getElem?_toList
def cB:=@List.take_append_drop
def cC:=@Bool.false_eq_true
def cD:=@List.mem_of_mem_take
def cE:=@List.take_of_length_le
def cF:=@of_decide_eq_true
def cG:=@Int.toNat_natCast
def cH:=@Nat.min_eq_left
def cI:=@List.getElem?_zip_eq_some
def cJ:=@Bool.decide_and
def cK:=@Go.Sem.run_bind
def cL:=@Go.RowKit.Below.heap_setCell
def cM:=@or_false
def cN:=@Go.rounds_succ
def cO:=@List.take_left
def cP:=@Nat.pow_le_pow_right
def cQ:=@List.getElem?_map
def cR:=@Nat.add_mul
def cS:=@List.map_nil
def cT:=@List.getElem?_take
def cU:=@Go.wp_loop_rounds
def cV:=@congrArg
def cW:=@List.pairwise_append
def cX:=@if_true
def cY:=@Go.frozen_of_row
def cZ:=@List.getLast?_cons_cons
def c9:=@List.drop_left
def da:=@List.dropLast_concat_getLast
def db:=@decide_eq_decide
def dc:=@Nat.add_sub_cancel
def dd:=@Option.isNone_some
def de:=@Option.isNone_none
def df:=@Nat.le_of_eq
def dg:=@List.mem_replicate
def dh:=@List.getElem?_eq_none
def di:=@List.zip_append
def dj:=@List.length_set
def dk:=@List.take_left'
def dm:=@decide_eq_true_eq
def dn:=@Nat.mul_le_mul_right
def dq:=@Bool.or_eq_false_iff
def dr:=@List.length_dropLast
def dt:=@Go.heap_alloc_new
def du:=@List.map_toArray
def dv:=@Go.ByteArray.toList_eq
def dw:=@List.getElem?_replicate
def dx:=@UInt8.toNat_inj
def dy:=@Bool.eq_iff_iff
def dz:=@List.append_eq_nil_iff
def dA:=@List.size_toArray
def dB:=@List.any_eq_false
def dC:=@Decidable.not_not
def dD:=@List.singleton_append
def dE:=@beq_iff_eq
def dF:=@Option.getD_some
def dG:=@beq_eq_false_iff_ne
def dH:=@Nat.mul_le_mul_left
def dI:=@List.length_pos_iff
def dJ:=@List.getLast?_eq_getElem?
def dK:=@List.mem_or_eq_of_mem_set
def dL:=@and_congr_left'
def dM:=@Go.grownCap_le_maxLen
def dN:=@Go.wpList_plain
def dO:=@Bool.false_ne_true
def dP:=@Go.step_scope
def dQ:=@Bool.not_eq_true'
def dR:=@Nat.le_succ
section
def Stop (p:Prop):Prop:=p
theorem Stop.out {p:Prop} (h:Stop p):p:=h
def eA (v:Value) (k:Nat):Prop:=v.ownBlock=some k
structure dU (S:Nat ->Prop) (w w':World):Prop where
 os:w'.os=w.os
 tape:w'.tape=w.tape
 output:w'.output=w.output
 size:w.heap.size <=w'.heap.size
 block:∀k,k < w.heap.size ->¬ S k ->w'.heap[k]?=w.heap[k]?
theorem dU.refl (S:Nat ->Prop) (w:World):dU S w w:=⟨rfl,rfl,rfl,ag _,fun _ _ _=>rfl⟩
theorem dU.trans {S S':Nat ->Prop} {a b c:World} (h:dU S a b) (k:dU S' b c) (hs:∀i,S' i ->S i\/a.heap.size <=i):dU S a c:=
 ⟨k.os.trans h.os,k.tape.trans h.tape,k.output.trans h.output,aW h.size k.size,fun i hi hn=>
  (k.block i (bH hi h.size) (fun s=>(hs i s).elim hn (fun h=>by omega))).trans (h.block i hi hn)⟩
theorem dU.mono {S S':Nat ->Prop} {a b:World} (h:dU S a b) (hs:∀i,S i ->S' i):dU S' a b:=
 ⟨h.os,h.tape,h.output,h.size,fun i hi hn=>h.block i hi (fun s=>hn (hs i s))⟩
theorem dU.below {S:Nat ->Prop} {B:Nat} {a b:World} (h:dU S a b) (hB:B <=a.heap.size) (hs:∀i,S i ->B <=i):Below B a b:=
 ⟨h.os,h.tape,h.output,h.size,fun i hi=>h.block i (by omega) (fun s=>by have:=hs i s;omega)⟩
theorem dU.dW {S:Nat ->Prop} {a b:World} (h:Below a.heap.size a b):dU S a b:=
 ⟨h.os,h.tape,h.output,h.size,fun i hi _=>h.block i hi⟩
theorem dU.drew {S:Nat ->Prop} {a b:World} (h:dU S a b):dU S a b.drew:=⟨h.os,h.tape,h.output,h.size,h.block⟩
theorem dU.alloc {S:Nat ->Prop} {a b:World} (h:dU S a b) (o:Obj):dU S a (b.alloc o):=
 h.trans (dU.dW ((an _ _).alloc (ag _) o) (S:=fun _=>False)) (fun _ h=>h.elim)
theorem fN {B:Nat} {a b:World} (h:Below B a.drew b):Below B a b:=⟨h.os,h.tape,h.output,h.size,h.block⟩
theorem dU.AF {S:Nat ->Prop} {a b:World} (h:dU S a.drew b):dU S a b:=⟨h.os,h.tape,h.output,h.size,h.block⟩
def eE (w:World) (v v':Value):Prop:=∀k,eA v' k ->eA v k\/w.heap.size <=k
theorem eE.refl (w:World) (v:Value):eE w v v:=fun _ h=> .inl h
theorem eE.trans {w w1:World} {a b c:Value} (h:eE w a b) (k:eE w1 b c) (hs:w.heap.size <=w1.heap.size):eE w a c:=
 fun i hi=>(k i hi).elim (h i) (fun h=> .inr (by omega))
theorem mC {w w':World} {S:Nat ->Prop} {base e size n:Nat} {v:Value} {xs:List Value} (h:w.ownsRow base e size v n xs) (hk:dU S w w') (hs:∀k,eA v k ->¬ S k):
  w'.ownsRow base e size v n xs:=by
 refine⟨h.1,?_⟩;rcases h.2 with hn | ⟨g,cap,cur,rfl,hb,hgg,rest⟩
 ·exact .inl hn
 ·refine .inr ⟨g,cap,cur,rfl,hb,?_,rest⟩
  rw [hk.block g (cg.1 hgg).1 (hs g rfl)];exact hgg
theorem et {w:World} {base e size n:Nat} {v:Value} {xs:List Value} (h:w.ownsRow base e size v n xs) {k:Nat} (hk:eA v k):base <=k/\k < w.heap.size:=h.lt k hk
theorem mD {w:World} {base base' e size n:Nat} {v:Value} {xs:List Value} (h:w.ownsRow base e size v n xs) (hs:∀k,eA v k ->base' <=k):w.ownsRow base' e size v n xs:=by
 refine⟨h.1,?_⟩;rcases h.2 with hn | ⟨g,cap,cur,rfl,hb,rest⟩
 ·exact .inl hn
 ·exact .inr ⟨g,cap,cur,rfl,hs g rfl,rest⟩
section
variable {P:Program} (w:World)
theorem sU (base:Nat) (t ty e:TypeId) (i:TypeInfo) (z:Value) (size bytes:Nat) (ht:P.underlying t=some (.slice e)) (hi:P.info? e=some i) (hz:i.zero=some z)
  (Py:i.size=size) (Nf:i.bytes=bytes) (hzs:z.cells.size=size) (Lr:0 < size)
  (v:Value) (n:Nat) (xs:List Value) (Ku:w.ownsRow base e size v n xs)
  (a:Addr) (m c:Nat) (news:List Value) (hl:news.length=m*size) (On:∀j u,news[j]?=some u ->w.cell? (a.add j)=some u) (h1:∀u∈news,u.oneCell'=true)
  (OI:n+m <=maxLen) (NZ:(n+m)*bytes <=140737488355328) (K3:base <=w.heap.size):
  ∃v' w',(Builtin.append_ #[t,t] ty #[v, .slice (some a) m c]).run P w= .ok v' w'/\w'.ownsRow base e size v' (n+m) (xs++news)/\dU (eA v) w w'/\eE w v v':=by
 subst Py;subst Nf;have hsmall:n+m <=9223372036854775807:=by simp only [maxLen]at OI;omega
 have hlen:(xs++news).length=(n+m)*i.size:=by rw [ah,Ku.1,hl,cR]
 have grown:∀(old:Nat),old < n+m ->
   (w.drew.alloc (.cells (xs.toArray++news.toArray++Builtin.zeroCells z.cells (grownCap w (n+m) old e - (n+m))) e)).ownsRow base e i.size
    (.slice (some ⟨w.heap.size,0,none⟩) (n+m) (grownCap w (n+m) old e)) (n+m) (xs++news)/\
   dU (eA v) w (w.drew.alloc (.cells (xs.toArray++news.toArray++Builtin.zeroCells z.cells (grownCap w (n+m) old e - (n+m))) e))/\
   eE w v (.slice (some ⟨w.heap.size,0,none⟩) (n+m) (grownCap w (n+m) old e)):=by
  intro old ho;have hge:=grownCap_ge w (n+m) old e;have My:grownCap w (n+m) old e <=maxLen:=dM w (n+m) old e OI;refine⟨⟨hlen, .inr ⟨w.heap.size,_,_,rfl,K3,dt w.drew _,hge,My,?_,?_⟩⟩,(dU.refl _ _).drew.alloc _,fun k hk=> .inr ?_⟩
  ·simp only [Array.size_append,dA,size_zeroCells,hzs,Ku.1,hl, <- cR]
   congr 1
   omega
  ·simp only [Array.toList_append,aP]
   rw [<- aP, <- hlen];exact cO
  ·simp [eA,Value.ownBlock]at hk
   omega
 rcases Ku.2 with⟨rfl,rfl⟩ | ⟨g,cap,cur,rfl,hbg,hg,hnc,My,QA,QB⟩
 ·have hx:xs=[]:=aH (by simpa using Ku.1)
  subst hx;by_cases hm:m=0
  ·subst hm
   have hn:news=[]:=aH (by simpa using hl);subst hn;refine⟨.slice none 0 0,w,?_,World.ownsRow_nil w base e i.size,dU.refl _ _,eE.refl _ _⟩;simp [Builtin.append_,bp ht,sizeOf,typeInfo,hi,Builtin.lenOf,Builtin.firstCells,loadCells,loadCellsFrom]
  ·have hr:=run_append_nil (P:=P) w t ty e i z ht hi hz a m c news hl On (by omega) (by omega) (by have hb:=NZ;simp only [bW]at hb;omega)
   have O2:=grown 0 (by omega);simp only [bW,bL,Array.empty_append]at O2⊢;exact⟨_,_,hr,O2.1,O2.2.1,O2.2.2⟩
 ·by_cases Oo:n+m <=cap
  ·have hfit:n*i.size+news.length <=cur.size:=by rw [hl,QA, <- cR];exact dn _ Oo
   have hr:=run_append_room (P:=P) w t ty e i ht hi g n cap cur hg a m c news hl On h1 Oo hfit;refine⟨_,_,hr,⟨hlen, .inr ⟨g,cap,_,rfl,hbg,setRow_heap w g cur _ e _ hg,Oo,My,?_,?_⟩⟩,⟨rfl,rfl,rfl,by simp,fun k _ hk=>setRow_other w g k _ (fun e=>hk (by simp [eA,Value.ownBlock,e]))⟩,fun k hk=> .inl hk⟩
   ·simp only [dA,ah,aS,bq,Array.length_toList]
    omega
   ·rw [QB, <- hlen]
    exact cO
  ·have holds:∀j u,xs[j]?=some u ->w.cell? ((⟨g,0,none⟩:Addr).add j)=some u:=Ku.cells (g:=g) rfl
   have hr:=run_append_grow (P:=P) w t ty e i z ht hi hz ⟨g,0,none⟩ n cap xs Ku.1 holds a m c news hl On (by omega) (by omega) (growslice_fits (by omega) NZ);have O2:=grown cap (by omega);exact⟨_,_,hr,O2.1,O2.2.1,O2.2.2⟩
theorem qA {ops:Array Oper} {rest:List Oper} {o:Oper} {a:Act} {Q:Exit ->Act ->World ->Prop} (N0:o.guard=none) (s x:Operand) (t:TypeId)
  (ho:o.op= .call {callee:= .builtin .append,args:=#[s,x],argTypes:=#[t,t]})
  (base:Nat) (e:TypeId) (i:TypeInfo) (z:Value) (size bytes:Nat) (ht:P.underlying t=some (.slice e)) (hi:P.info? e=some i) (hz:i.zero=some z)
  (Py:i.size=size) (Nf:i.bytes=bytes) (hzs:z.cells.size=size) (Lr:0 < size)
  (v:Value) (n:Nat) (xs:List Value) (hs:a.eval s=v) (Ku:w.ownsRow base e size v n xs)
  (ad:Addr) (m c:Nat) (news:List Value) (hx:a.eval x= .slice (some ad) m c) (hl:news.length=m*size) (On:∀j u,news[j]?=some u ->w.cell? (ad.add j)=some u) (h1:∀u∈news,u.oneCell'=true)
  (OI:n+m <=maxLen) (NZ:(n+m)*bytes <=140737488355328) (K3:base <=w.heap.size)
  (h:∀v' w',w'.ownsRow base e size v' (n+m) (xs++news) ->dU (eA v) w w' ->eE w v v' ->wpList P ops Q rest (a.put o.dst v') w'):wpList P ops Q (o::rest) a w:=
 dN N0 fun _ hK=>by
  obtain⟨v',w',hr,h2,h3,h4⟩:=sU (P:=P) w base t o.type e i z size bytes ht hi hz Py Nf hzs Lr v n xs Ku ad m c news hl On h1 OI NZ K3;unfold Oper.wp execOp;simp only [ho,resolve,invoke,builtin,cK,cd,cz,du,bA,cS,hs,hx,hr];exact hK _ _ (h v' w' h2 h3 h4)
theorem r9 {ops:Array Oper} {rest:List Oper} {o:Oper} {a:Act} {Q:Exit ->Act ->World ->Prop} (N0:o.guard=none) (s x:Operand) (t:TypeId)
  (ho:o.op= .call {callee:= .builtin .append,args:=#[s,x],argTypes:=#[t,t]})
  (base:Nat) (e:TypeId) (i:TypeInfo) (z:Value) (size bytes:Nat) (ht:P.underlying t=some (.slice e)) (hi:P.info? e=some i) (hz:i.zero=some z)
  (Py:i.size=size) (Nf:i.bytes=bytes) (hzs:z.cells.size=size) (Lr:0 < size)
  (v:Value) (n:Nat) (xs:List Value) (hs:a.eval s=v) (Ku:w.ownsRow base e size v n xs)
  (news:List Value) (hx:a.eval x= .slice (some ⟨w.heap.size,0,none⟩) 1 1) (hl:news.length=size) (h1:∀u∈news,u.oneCell'=true)
  (OI:n+1 <=maxLen) (NZ:(n+1)*bytes <=140737488355328) (K3:base <=w.heap.size)
  (h:∀v' w',w'.ownsRow base e size v' (n+1) (xs++news) ->dU (eA v) w w' ->eE w v v' ->wpList P ops Q rest (a.put o.dst v') w'):wpList P ops Q (o::rest) a (w.alloc (.cells news.toArray e)):=by
 have hk:dU (eA v) w (w.alloc (.cells news.toArray e)):=(dU.refl _ _).alloc _;refine qA (P:=P) (w.alloc (.cells news.toArray e)) N0 s x t ho base e i z size bytes ht hi hz Py Nf hzs Lr v n xs hs (Ku.alloc _) ⟨w.heap.size,0,none⟩ 1 1 news hx (by omega) ?_ h1 OI NZ (by simp;omega) ?_
 ·intro j u hu
  have Oq:(⟨w.heap.size,0,none⟩:Addr).add j=⟨w.heap.size,j,none⟩:=by unfold Addr.add;split <;>simp_all
  rw [Oq,bQ];simpa using hu
 ·intro v' w' h2 h3 h4
  refine h v' w' h2 (hk.trans h3 (fun i hi=> .inl hi)) (fun k hk'=>(h4 k hk').imp id (fun h=>?_));have:w.heap.size <=(w.alloc (.cells news.toArray e)).heap.size:=by simp
  omega
end
abbrev bv (x:UInt8):Value:= .int .u8 (x.toNat:Int)
theorem Aw (l:List UInt8):∀u∈l.map bv,u.oneCell'=true:=by
 intro u hu;obtain⟨x,_,rfl⟩:=List.mem_map.1 hu;rfl
theorem od:(prog.info? 5).map (fun i=>(i.zero,i.size,i.bytes))=some (some (.int .u8 0),1,1):=by kernel_rfl
def dX (w:World) (B:Nat) (v:Value) (l:List UInt8):Prop:=w.ownsRow B 5 1 v l.length (l.map bv)
theorem dX.nil (w:World) (B:Nat):dX w B (.slice none 0 0) []:=World.ownsRow_nil w B _ _
theorem dX.keeps {w w':World} {S:Nat ->Prop} {B:Nat} {v:Value} {l:List UInt8} (h:dX w B v l) (hk:dU S w w') (hs:∀k,eA v k ->¬ S k):dX w' B v l:=mC h hk hs
theorem dX.below {w w':World} {B:Nat} {v:Value} {l:List UInt8} (h:dX w B v l) (hk:Below w.heap.size w w'):dX w' B v l:=
 mC h (dU.dW (S:=fun _=>False) hk) (fun _ _ h=>h)
theorem eY {P:Program} (w:World) {ops:Array Oper} {rest:List Oper} {o:Oper} {a:Act} {Q:Exit ->Act ->World ->Prop} (N0:o.guard=none) (s x:Operand)
  (hP:P=prog) (ho:o.op= .call {callee:= .builtin .append,args:=#[s,x],argTypes:=#[97,97]})
  (B:Nat) (v:Value) (l:List UInt8) (hs:a.eval s=v) (Ku:dX w B v l)
  (y:UInt8) (m:Int) (hm:m=y.toNat) (hx:a.eval x= .slice (some ⟨w.heap.size,0,none⟩) 1 1)
  (OI:l.length <=140737488355327) (K3:B <=w.heap.size)
  (h:∀v' w',dX w' B v' (l++[y]) ->dU (eA v) w w' ->eE w v v' ->wpList P ops Q rest (a.put o.dst v') w'):wpList P ops Q (o::rest) a (w.alloc (.cells #[.int .u8 m] 5)):=by
 subst hP;subst hm;obtain⟨i0,hi,M5,LR,Mz⟩:=bX od;refine r9 (P:=prog) w N0 s x 97 ho B 5 i0 (.int .u8 0) 1 1 (by kernel_rfl) hi M5 LR Mz rfl (by decide) v l.length (l.map bv) hs Ku [bv y] hx rfl (Aw [y]) (by simp only [maxLen];omega) (by omega) K3 ?_;intro v' w' h2 h3 h4;refine h v' w' ?_ h3 h4;simpa [dX] using h2
theorem kg {P:Program} {a:Act} {w:World} {Q:Exit ->Act ->World ->Prop} {c rest:Code} (l:Nat) (J:Act ->World ->Prop) (μ:Act ->World ->Nat) (hf:findLabel c l=some (.seq .skip rest))
  (pass:∀a w,J a w ->rest.wp P (Exit.jump l (fun a' w'=>J a' w'/\μ a' w' < μ a w) Q) a w)
  (first:(∀a w,J a w ->rest.wp P (Exit.jump l J Q) a w) ->c.wp P (Exit.jump l J Q) a w):(Code.scope c).wp P Q a w:=by
 refine wp_scope_jumps l J μ hf (first fun a w hJ=>Code.wp_mono ?_ (pass a w hJ)) fun a w hJ=>wp_seq (wp_skip ?_)
 ·intro e a' w' h
  cases e <;>first | exact h | exact⟨h.1,h.2.1⟩
 ·exact pass a w hJ
theorem ly {l:Nat} {J:Act ->World ->Prop} {μ:Act ->World ->Nat} {Q:Exit ->Act ->World ->Prop} {a:Act} {w:World} {m:Nat} (h:J a w) (hm:μ a w < m):Exit.jump l (fun a' w'=>J a' w'/\μ a' w' < m) Q (.goto l) a w:=⟨rfl,h,hm⟩
theorem iJ (l:Nat) (J:Act ->World ->Prop) (Q:Exit ->Act ->World ->Prop) (a:Act) (w:World):Exit.jump l J Q .ret a w=Q .ret a w:=rfl
def eJ (w:World) (v:Value) (l:List UInt8):Prop:=
 ∃a cap,v= .slice a l.length cap/\l.length <=cap/\cap <=maxLen/\∀i x,l[i]?=some x ->∃b off,a=some ⟨b,off,none⟩/\w.cell? ⟨b,off+i,none⟩=some (bv x)
theorem eJ.nil (w:World):eJ w (.slice none 0 0) []:=⟨none,0,rfl,ag _,by simp [maxLen],by simp⟩
theorem eJ.below {w w':World} {v:Value} {l:List UInt8} (h:eJ w v l) (hb:Below w.heap.size w w'):eJ w' v l:=by
 obtain⟨a,cap,hv,h1,h2,h3⟩:=h;refine⟨a,cap,hv,h1,h2,fun i x hx=>?_⟩;obtain⟨b,off,ha,hc⟩:=h3 i x hx;exact⟨b,off,ha,by rw [hb.cell (aT w _ hc)];exact hc⟩
theorem dX.fp {w:World} {B:Nat} {v:Value} {l:List UInt8} (h:dX w B v l):eJ w v l:=by
 obtain⟨hl,hv | ⟨g,cap,cur,hv,hb,hg,hn,hm,hs,ht⟩⟩:=h
 ·obtain⟨rfl,h0⟩:=hv
  obtain rfl:l=[]:=aH h0;exact eJ.nil w
 ·refine⟨_,cap,hv,hn,hm,fun i x hx=>⟨g,0,rfl,?_⟩⟩
  rw [cell_of_row w g _ cur _ _ hg,bW];have h1:(l.map bv)[i]?=some (bv x):=by simp [hx]
  rw [<- ht,cT]at h1;split at h1
  ·simpa using h1
  ·cases h1
theorem eJ.take {w:World} {a:Option Addr} {n cap:Nat} {l:List UInt8} (h:eJ w (.slice a n cap) l) (k:Nat) (hk:k <=l.length):eJ w (.slice a k cap) (l.take k):=by
 obtain⟨a',KR,hv,h1,h2,h3⟩:=h;injection hv with e1 e2 e3;subst e1 e2 e3;refine⟨a,cap,?_,?_,h2,fun i x hx=>?_⟩
 ·rw [aS,cH hk]
 ·rw [aS];omega
 ·rw [cT]at hx
  split at hx
  ·exact h3 i x hx
  ·cases hx
def bs (l:List UInt8):ByteArray:=⟨l.toArray⟩
theorem foldl_push:∀(l:List UInt8) (s:ByteArray),((l.map fun x=>(x.toNat:Int)).foldl (fun r n=>r.push (UInt8.ofNat n.toNat)) s)=⟨s.data++l.toArray⟩
 | [],s=>by simp
 | x::l,s=>by
  simp only [bA,List.foldl_cons];rw [foldl_push l];simp [ByteArray.push]
theorem pC {w:World} {v:Value} {l:List UInt8} (h:eJ w v l):(convert 97 9 v).run prog w= .ok (.string (bs l)) w:=by
 obtain⟨a,cap,rfl,h1,h2,h3⟩:=h;rw [run_convert_bytes_string w 97 9 5 a l.length cap (by kernel_rfl) (by kernel_rfl) (by kernel_rfl)];cases l with
 | nil=>
  cases a with
  | none=>rfl
  | some a=>rfl
 | cons x l=>
  obtain⟨b,off,rfl,_⟩:=h3 0 x rfl;have hl:=run_loadCells_list (P:=prog) w ⟨b,off,none⟩ ((x::l).map bv) (fun j u hu=>by
   rw [cQ]at hu;cases hj:(x::l)[j]? with
   | none=>rw [hj]at hu;cases hu
   | some y=>
    rw [hj]at hu;simp at hu;subst hu;obtain⟨b',off',he,hc⟩:=h3 j y hj;injection he with he;injection he with e1 e2;subst e1 e2;have Oq:(⟨b,off,none⟩:Addr).add j=⟨b,off+j,none⟩:=by
     unfold Addr.add;split <;>simp_all
    rw [Oq];exact hc)
  rw [bN]at hl;rw [run_bytesToString w ⟨b,off,none⟩ (x::l).length cap ((x::l).map fun x=>(x.toNat:Int)) (by rw [hl];simp [List.map_map])];rw [foldl_push];have he:ByteArray.empty.data=#[]:=rfl;rw [he];simp [bs]
theorem lu (l:List UInt8):(bs l).toList=l:=by
 rw [dv];rfl
theorem eH {a b:Int} (h:a=b):(a==b)=true:=by simp [h]
theorem dS {a b:Int} (h:a≠b):(a==b)=false:=by simp [h]
theorem ff {a b:Int} (h:a≠b):(a !=b)=true:=bne_iff_ne.2 h
theorem jN {a b:Int} (h:a=b):(a !=b)=false:=by rw [h];exact bne_self_eq_false b
theorem Jc:∀x:Fin 256,x.val ||| 128=x.val %128+128:=by decide+kernel
theorem tq (n:Nat) (h:n < 256):bits .or .u8 (n:Int) 128=((n %128+128:Nat):Int):=by
 have h0:=u8_or_nat n 128 h (by omega);rw [Jc ⟨n,h⟩]at h0;exact h0
def b8 (n:Nat):UInt8:=UInt8.ofNat n
theorem fM {n:Nat} (h:n < 256):(b8 n).toNat=n:=by simpa [b8] using Nat.mod_eq_of_lt h
end
def jD:Nat ->Nat ->List UInt8
 | 0,_=>[]
 | f+1,n=>if n < 128 then [b8 n]else b8 (n %128+128)::jD f (n/128)
def eP (n:Nat):List UInt8:=jD 10 n
def Jm (xs:List UInt8) (u:Nat) (B:Nat) (b:Value) (w w':World) (v:Value) (n:Nat):Prop:=
 ∃(ys:List UInt8) (k f:Nat),dX w' B v ys/\dU (eA b) w w'/\eE w b v/\ys.length <=xs.length+k/\k+f=9/\n < 2*128^f/\ys++jD (f+1) n=xs++jD 10 u
def G3 (xs:List UInt8) (u:Nat) (B:Nat) (b:Value) (w:World) (e:Ending) (w':World):Prop:=
 ∃v,e= .returned v/\dX w' B v (xs++eP u)/\dU (eA b) w w'/\eE w b v
theorem Iv (n:Nat):bits .or .u8 ((n:Int) %256) 128=((b8 (n %128+128)).toNat:Int):=by
 have h:=tq (n %256) (by omega);rw [show n %256 %128=n %128 from by omega]at h;rw [fM (by omega), <- h];rfl
theorem je (b:Value) (xs:List UInt8) (u:Nat) (h1:u < 18446744073709551616) (B:Nat) (w:World) (Ku:dX w B b xs) (hn:xs.length <=1000000000) (hB:B <=w.heap.size):
  Calls prog 235 #[b, .int .u64 u] w (G3 xs u B b w):=by
 go_enter func235,ntmps235;go_wp2;refine kg 0 (fun a' w'=>∃(v:Value) (n:Nat) (u5 u6 u7 u8 u9 u10 QC P0 QD QE QF u16 QG QH QI:Value),a'={tmps:=#[v, .int .u64 n,undef,undef, .slice none 0 0,u5,u6,u7,u8,u9,u10,QC,P0,QD,QE,QF,u16,QG,QH,QI],defers:=[]}/\Jm xs u B b w w' v n) (fun a' _=>(intOf (a'.tmps.getD 1 undef)).toNat) rfl ?_ ?_
 ·rintro a' w1 ⟨v,n,u5,u6,u7,u8,u9,u10,QC,P0,QD,QE,QF,u16,QG,QH,QI,rfl,hJ⟩
  obtain⟨ys,k,f,N8,hk,hs,hlen,hkf,hnf,heq⟩:=hJ;have HE:=V heq;have HK:=V hkf;have hk9:k <=9:=by omega
  clear heq hkf Ku;have Lr:=hk.size;by_cases KC:n < 128
  ·go_wp2_with (first | (at_builtin;refine eY w1 rfl _ _ rfl rfl B v ys rfl N8 (b8 n) _ ?_ rfl ?_ ?_ ?_))
   ·rw [fM (by omega)]
   ·omega
   ·omega
   ·intro v' w2 KQ KB KG
    go_wp2;rw [iJ];go_ret;refine⟨v',rfl,?_,hk.trans KB ?_,hs.trans KG Lr⟩
    ·have h:=HE.out
     rw [jD,aJ KC]at h;rw [eP, <- h];exact KQ
    ·exact fun i hi=>hs i hi
  ·go_wp2_with (first | (at_builtin;refine eY w1 rfl _ _ rfl rfl B v ys rfl N8 (b8 (n %128+128)) _ (Iv n) rfl ?_ ?_ ?_))
   ·omega
   ·omega
   ·intro v' w2 KQ KB KG
    go_wp2
    go_step3
    have hf:f≠0:=by
     rintro rfl;omega
    obtain⟨f',rfl⟩:∃f',f=f'+1:=⟨f - 1,by omega⟩;have hnq:((n:Int)/128)=((n/128:Nat):Int):=by omega
    rw [hnq];refine ly ⟨v',n/128,_,_,_,_,_,_,_,_,_,_,_,_,_,_,_,rfl,ys++[b8 (n %128+128)],k+1,f',KQ,hk.trans KB (fun i hi=>hs i hi),hs.trans KG Lr,?_,?_,?_,?_⟩ ?_
    ·simp
     omega
    ·have:=HK.out
     omega
    ·rw [Nat.pow_succ]at hnf
     omega
    ·have h:=HE.out
     rw [jD,aC KC]at h;rw [<- h];simp
    ·simp [intOf]
     omega
 ·intro H
  apply wp_seq_k;intro K hK;apply wp_label;apply hK;exact H _ _ ⟨b,u,_,_,_,_,_,_,_,_,_,_,_,_,_,_,_,rfl,xs,0,9,Ku,dU.refl _ _,eE.refl _ _,by omega,rfl,by omega,rfl⟩
def cont:List UInt8 ->Nat
 | []=>0
 | x::l=>if 128 <=x.toNat then cont l+1 else 0
theorem xH:∀l:List UInt8,cont l <=l.length
 | []=>ag _
 | x::l=>by
  have:=xH l;simp only [cont,aI];split <;>omega
theorem BH:∀(l:List UInt8) (i:Nat) (x:UInt8),l[i]?=some x ->i < cont l ->128 <=x.toNat
 | [],i,x,h,_=>by simp at h
 | y::l,0,x,h,hi=>by
  simp at h;subst h;simp only [cont]at hi;split at hi
  ·assumption
  ·omega
 | y::l,i+1,x,h,hi=>by
  simp only [cont]at hi;split at hi
  ·exact BH l i x (by simpa using h) (by omega)
  ·omega
theorem Cd:∀(l:List UInt8) (x:UInt8),l[cont l]?=some x ->x.toNat < 128
 | [],x,h=>by simp at h
 | y::l,x,h=>by
  simp only [cont]at h;split at h
  ·exact Cd l x (by simpa using h)
  ·rename_i hy
   simp at h;subst h;omega
def fc (bits:Int) (l:List UInt8):Nat × Int:=
 if bits < 1\/64 < bits then(0,3)
 else if(bits+6)/7 <=cont l then(0,1)
 else if cont l=l.length then(0,2)
 else(cont l+1,0)
def IE (bits:Int) (l:List UInt8) (w:World) (e:Ending) (w':World):Prop:=
 e= .returned (.tuple #[.int .i64 (fc bits l).1, .int .i64 (fc bits l).2])/\w=w'
def Kc (l:List UInt8) (fi:Nat) (w w':World) (n:Nat):Prop:=w'=w/\n <=fi/\n <=cont l
theorem mG (b:Value) (l:List UInt8) (bits:Int) (w:World) (hb:eJ w b l) (KJ: -9223372036854775808 <=bits) (Kx:bits <=9223372036854775807):
  Calls prog 268 #[b, .int .i64 bits] w (IE bits l w):=by
 obtain⟨a,cap,rfl,hl,hm,hc⟩:=hb;unfold maxLen at hm;have HC:=V hc;clear hc;by_cases h1:bits < 1
 ·go_enter func268,ntmps268
  go_wp2
  go_step3
  go_wp2;rw [Exit.noGoto_ret]
  go_ret2
  exact⟨by rw [fc,aJ (.inl h1)];rfl,rfl⟩
 by_cases h2:64 < bits
 ·go_enter func268,ntmps268
  go_wp2
  go_step3
  go_wp2;rw [Exit.noGoto_ret]
  go_ret2
  exact⟨by rw [fc,aJ (.inr h2)];rfl,rfl⟩
 have O8:=xH l;obtain⟨q,hq⟩:∃q:Nat,(q:Int)=(bits+6)/7:=⟨((bits+6)/7).toNat,by omega⟩;have hq0:1 <=q:=by omega
 have hq1:q <=10:=by omega
 have HQ:=V hq;clear hq;go_enter func268,ntmps268;go_wp2;refine kg 0 (fun a' w'=>∃(n:Nat) (u8 u9 u10 QC P0 QD QE QF u16 QG QH QI u20 u21 u22 u23 u24 u25 u26 u27 u28 u29 u30 u31 u32 u33 u34 u35 u36:Value),a'={tmps:=#[.slice a l.length cap, .int .i64 bits,undef,undef, .int .i64 0, .int .i64 0, .int .i64 n, .int .i64 q,u8,u9,u10,QC,P0,QD,QE,QF,u16,QG,QH,QI,u20,u21,u22,u23,u24,u25,u26,u27,u28,u29,u30,u31,u32,u33,u34,u35,u36],defers:=[]}/\Kc l q w w' n) (fun a' _=>(q - (intOf (a'.tmps.getD 6 undef)).toNat)) rfl ?_ ?_
 ·rintro a' w1 ⟨n,u8,u9,u10,QC,P0,QD,QE,QF,u16,QG,QH,QI,u20,u21,u22,u23,u24,u25,u26,u27,u28,u29,u30,u31,u32,u33,u34,u35,u36,rfl,hJ⟩
  obtain⟨rfl,hn,hnc⟩:=hJ;by_cases e1:n=q
  ·subst e1
   go_wp2;rw [iJ]
   go_ret2
   exact⟨by rw [fc,aC (by omega),aJ (by have:=HQ.out;omega)];rfl,rfl⟩
  have b1:=dS (a:=(n:Int)) (b:=(q:Int)) (by omega);by_cases e2:n=l.length
  ·subst e2
   go_wp2;rw [iJ]
   go_ret2
   exact⟨by rw [fc,aC (by omega),aC (by have:=HQ.out;omega),aJ (by omega)];rfl,rfl⟩
  have b2:=dS (a:=(n:Int)) (b:=(l.length:Int)) (by omega);obtain⟨x,hx⟩:∃x,l[n]?=some x:=⟨_,aq (show n < l.length by omega)⟩;obtain⟨b,off,rfl,hc⟩:=HC.out n x hx;have hx8:=x.toNat_lt;have HX:=V hx;clear hx;have KC:n < l.length:=by omega
  by_cases e3:128 <=x.toNat
  ·have hnc':n < cont l:=by
    rcases bC n (cont l)with h | h
    ·exact h
    ·obtain rfl:n=cont l:=by omega
     have:=Cd l x HX.out;omega
   go_wp2
   go_step3
   simp only [Exit.inBlock,Exit.then];refine ly ⟨n+1,_,_,_,_,_,_,_,_,_,_,_,_,_,_,_,_,_,_,_,_,_,_,_,_,_,_,_,_,_,rfl,rfl,by omega,by omega⟩ ?_;simp [intOf];omega
  ·have hnc':n=cont l:=by
    rcases bC n (cont l)with h | h
    ·have:=BH l n x HX.out h
     omega
    ·omega
   have HN:=V hnc';clear hnc';go_wp2;rw [iJ]
   go_ret2
   refine⟨?_,rfl⟩;have:=HN.out;have:=HQ.out;rw [fc,aC (by omega),aC (by omega),aC (by omega), <- HN.out]
   go_num
 ·intro H
  have Hh:=V H;clear H;go_wp2
  go_step3
  go_step
  go_step
  have e7:(bits+7 - 1)/7=(q:Int):=by have:=HQ.out;omega
  rw [e7];refine Hh.out _ _ ⟨0,_,_,_,_,_,_,_,_,_,_,_,_,_,_,_,_,_,_,_,_,_,_,_,_,_,_,_,_,_,rfl,rfl,by omega,by omega⟩
def Gq (l m:List UInt8) (w:World) (e:Ending) (w':World):Prop:=e= .returned (.bool (l==m))/\w=w'
theorem lL (a b:Value) (l m:List UInt8) (w:World) (ha:eJ w a l) (hb:eJ w b m):
  Calls prog 269 #[a,b] w (Gq l m w):=by
 have h1:=pC ha;have h2:=pC hb;clear ha hb;go_enter func269,ntmps269;go_wp2;go_ret;exact⟨by rw [lu,lu];rfl,rfl⟩
section
def nth {α:Type}:List α ->Nat ->Option α
 | [],_=>none
 | x::_,0=>some x
 | _::l,n+1=>nth l n
theorem ou {α:Type}:∀(l:List α) (n:Nat),nth l n=l[n]?
 | [],_=>by simp [nth]
 | x::l,0=>by simp [nth]
 | x::l,n+1=>by simp [nth,ou l n]
def isVal:Op ->Bool
 | .move _ | .assign _ | .pick .. | .binOp .. | .unOp .. | .convert .. | .slice .. | .fieldAddr .. | .field .. | .indexAddr .. | .index .. | .extract .. | .load .. | .makeInterface .. | .nilCheck _ | .build .. =>true
 | .call {callee:= .builtin .len, .. }=>true
 | _=>false
theorem mB {P:Program} {ρ:Operand ->Value} {o:Oper} (h:isVal o.op=true) (w:World):
  (∃v w',(execOp ρ o).run P w= .ok (.value v) w')\/(∃x w',(execOp ρ o).run P w= .halt x w'):=by
 have key:∀s:Sem Value,(∃v w',(do pure (Next.value (<- s)):Sem Next).run P w= .ok (.value v) w')\/(∃x w',(do pure (Next.value (<- s)):Sem Next).run P w= .halt x w'):=by
  intro s;rw [cK];cases hs:s.run P w with
  | ok v w'=>exact .inl ⟨v,w',by simp [cd]⟩
  | halt x w'=>exact .inr ⟨x,w',by simp⟩
 obtain⟨dst,op,type,pos,after,guard⟩:=o;cases op <;>simp only [isVal,cC]at h <;>simp only [execOp]
 all_goals first
  | exact key _
  | exact .inl ⟨_,_,by rw [cd]⟩
  | skip
 case pick c a b=>
  rw [cK];cases hs:(asBool (ρ c)).run P w with
  | ok v w'=>exact .inl ⟨_,w',by simp only [cz];rw [cd]⟩
  | halt x w'=>exact .inr ⟨x,w',by simp⟩
 case nilCheck x=>
  have hp:∃x w',(runtimePanic .nilDeref:Sem Next).run P w= .halt x w':=⟨_,w,by simp [runtimePanic,goPanic,go_sem];rfl⟩;cases ρ x with
  | pointer a=>cases a <;>first | exact .inr hp | exact .inl ⟨_,_,by rw [cd]⟩
  | nilIface=>exact .inr hp
  | nilFunc=>exact .inr hp
  | func fn first captured=>
   cases fn with
   | method name=>
    dsimp only;split
    ·exact .inr hp
    ·rename_i t v _
     rw [cK];cases hs:(program:Sem Program).run P w with
     | ok p w1=>
      simp only [cz];rw [cK];cases hs:(nilAhead (p.types.size+Made.depth) t v name).run P w1 with
      | ok r w2=>
       simp only [cz];split
       ·rw [cK]
        exact .inr ⟨_,_,rfl⟩
       ·exact .inl ⟨_,_,by simp only [cd];rfl⟩
      | halt x w2=>exact .inr ⟨x,w2,by simp⟩
     | halt x w1=>exact .inr ⟨x,w1,by simp⟩
    ·exact .inl ⟨_,_,by rw [cd]⟩
   | _=>exact .inl ⟨_,_,by rw [cd]⟩
  | _=>exact .inl ⟨_,_,by rw [cd]⟩
 case call c=>
  obtain⟨callee,args,ats⟩:=c;cases callee with
  | builtin b=>
   cases b <;>simp only [cC]at h;simp only [resolve,cK,cd,cz,invoke,builtin];cases hs:(Builtin.len_ ats type (args.map ρ)).run P w with
   | ok v w'=>exact .inl ⟨v,w',by simp⟩
   | halt x w'=>exact .inr ⟨x,w',by simp⟩
  | value f=>simp only [cC]at h
  | invoke r m=>simp only [cC]at h
def I5:List Value ->Nat ->Value
 | [],_=>undef
 | x::_,0=>x
 | _::l,n+1=>I5 l n
def slot (a:Act) (i:Nat):Value:=I5 a.tmps.toList i
def fr (l:List Value):Act:={tmps:=l.toArray,defers:=[]}
def gs (a:Act):Nat ->Nat ->List Value ->List Value
 | _,0,l=>l
 | i,n+1,l=>slot a i::gs a (i+1) n l
def kW (ops:List Oper) (g:Option (Nat × Bool)) (a:Act):Bool:=
 match g with
 | none=>true
 | some (j,want)=>match nth ops j with
  | some o=>match o.dst with
   | some d=>match nth a.tmps.toList d with
    | some (.bool b)=>b==want
    | _=>false
   | none=>false
  | none=>false
theorem mr (ops:Array Oper) (o:Oper) (a:Act):Region.wanted o (yielded ops a.tmps)=kW ops.toList o.guard a:=by
 unfold Region.wanted kW;cases o.guard with
 | none=>rfl
 | some g=>
  obtain⟨j,want⟩:=g;simp only [yielded,ou,cA];cases ops[j]? with
  | none=>rfl
  | some o'=>
   simp only [aw];cases o'.dst with
   | none=>rfl
   | some d=>
    simp only [aw];cases a.tmps[d]? with
    | none=>rfl
    | some v=>cases v <;>rfl
def BP (a':Act) (w':World) (e:Exit) (a:Act) (w:World):Prop:=e= .normal/\a=a'/\w=w'
def oD (Q:Exit ->Act ->World ->Prop) (S:World ->Prop) (K:Act ->World ->Prop):Exit ->Act ->World ->Prop
 | .normal,a,w=>S w/\K a w
 | .panic _,_,_=>False
 | e,a,w=>Q e a w
def bare (o:Oper):Oper:={o with guard:=none,after:=#[]}
def iX (P:Program) (ops:List Oper) (Q:Exit ->Act ->World ->Prop) (S:World ->Prop):List (Nat × Bool) ->Act ->World ->Prop
 | [],a,w=>Q .normal a w
 | (i,true)::rest,a,w=>∃o,nth ops i=some o/\
   ((kW ops o.guard a=true/\∃d,o.dst=some d/\d < a.tmps.size/\∃a',(∀w',S w' ->wpList P #[] (BP a' w') [bare o] a w')/\iX P ops Q S rest a' w)\/
    (kW ops o.guard a=false/\iX P ops Q S rest (a.put o.dst undef) w))
 | (i,false)::rest,a,w=>∃o,nth ops i=some o/\
   ((kW ops o.guard a=true/\wpList P #[] (oD Q S (iX P ops Q S rest)) [bare o] a w)\/
    (kW ops o.guard a=false/\iX P ops Q S rest (a.put o.dst undef) w))
def ur (ops:Array Oper):List (Nat × Bool) ->Array Bool ->Bool
 | [],listed=>(Region.ready .any ops listed).isEmpty
 | (i,true)::rest,listed=>(ops[i]?.any fun o=>isVal o.op)&&(Region.ready .any ops listed).contains i&&Region.free .any ops listed i&&ur ops rest (listed.setIfInBounds i true)
 | (i,false)::rest,listed=>(Region.ready .any ops listed==[i])&&ur ops rest (listed.setIfInBounds i true)
theorem iL (ρ:Operand ->Value) (o:Oper):execOp ρ (bare o)=execOp ρ o:=rfl
theorem ml {P:Program} {Q:Exit ->Act ->World ->Prop} {o:Oper} {a:Act} {w:World} (h:wpList P #[] Q [bare o] a w):
  (bare o).wp P a w (Q .normal) Q\/((bare o).asks P a w/\LetsOut Q):=by
 unfold wpList at h;rw [aJ (by simp [Region.wanted,bare])]at h;exact h
theorem mR {P:Program} {ops:Array Oper} {Q:Exit ->Act ->World ->Prop} {S:World ->Prop} (hQ:∀c a w,¬ Q (.panic c) a w) (hs:Region.noSelect ops=true):
  ∀(l:List (Nat × Bool)) (fuel:Nat) (listed:Array Bool) (a:Act) (w:World),l.length <=fuel ->ur ops l listed=true ->S w ->
   iX P ops.toList Q S l a w ->wpAnyH P .any ops Q S fuel listed a w
 | [],fuel,listed,a,w,_,KF,_,h=>by
  simp only [ur,List.isEmpty_iff]at KF;exact wpAnyH_done KF h fuel
 | (i,true)::rest,0,_,_,_,hl,_,_,_=>by simp at hl
 | (i,false)::rest,0,_,_,_,hl,_,_,_=>by simp at hl
 | (i,true)::rest,fuel+1,listed,a,w,hl,KF,hS,h=>by
  simp only [ur,bM]at KF;obtain⟨⟨⟨hv,hr⟩,hf⟩,Lu⟩:=KF;simp only [aI]at hl;obtain⟨o,ho,h⟩:=h;rw [ou,cA]at ho;rw [ho]at hv;simp only [Option.any_some]at hv;rcases h with⟨hg,d,hd,hds,a',hp,hk⟩ | ⟨hg,hk⟩
  ·refine wpAnyH_take (v:=a'.tmps.getD d undef) ho hs hf hr (fun c a w h=>(hQ _ _ _ h).elim) (.inl ⟨by rw [mr];exact hg,fun w' hw'=>?_⟩) hS ?_
   ·rcases ml (hp w' hw')with h1 | ⟨_,h2⟩
    ·unfold Oper.wp at h1
     rw [iL]at h1;rcases mB (P:=P) (ρ:=a.eval) hv w' with⟨v,w2,KH⟩ | ⟨x,w2,KH⟩
     ·rw [KH]at h1⊢
      obtain⟨_,h3,h4⟩:=h1;subst h4;subst h3;have:(bare o).dst=some d:=hd;rw [this];simp [Act.put,hds]
     ·rw [KH]at h1
      cases x <;>simp only [Oper.upon]at h1
      case panic=>exact absurd h1.1 (by simp)
    ·obtain⟨_,_,h3,_⟩:=h2
     exact absurd h3 (by simp)
   ·have ha:a.put o.dst (a'.tmps.getD d undef)=a':=by
     rcases ml (hp w hS)with h1 | ⟨_,h2⟩
     ·unfold Oper.wp at h1
      rw [iL]at h1;rcases mB (P:=P) (ρ:=a.eval) hv w with⟨v,w2,KH⟩ | ⟨x,w2,KH⟩
      ·rw [KH]at h1
       obtain⟨_,h3,h4⟩:=h1;have hd':(bare o).dst=some d:=hd;rw [<- h3,hd',hd];simp [Act.put,hds]
      ·rw [KH]at h1
       cases x <;>simp only [Oper.upon]at h1
       case panic=>exact absurd h1.1 (by simp)
     ·obtain⟨_,_,h3,_⟩:=h2
      exact absurd h3 (by simp)
    rw [ha];exact mR hQ hs rest fuel _ _ _ (by omega) Lu hS hk
  ·refine wpAnyH_take (v:=undef) ho hs hf hr (fun c a w h=>(hQ _ _ _ h).elim) (.inr ⟨by rw [mr];exact hg,rfl⟩) hS ?_
   exact mR hQ hs rest fuel _ _ _ (by omega) Lu hS hk
 | (i,false)::rest,fuel+1,listed,a,w,hl,KF,hS,h=>by
  simp only [ur,bM,dE]at KF;obtain⟨hr,Lu⟩:=KF;simp only [aI]at hl;obtain⟨o,ho,h⟩:=h;rw [ou,cA]at ho;refine wpAnyH_all hr (by simp) fun j hj=>?_;obtain rfl:j=i:=by simpa using hj
  unfold wpOp;simp only [ho];rw [mr];rcases h with⟨hg,hw⟩ | ⟨hg,hk⟩
  ·rw [aJ hg]
   have LX:∀a' w',oD Q S (iX P ops.toList Q S rest) .normal a' w' ->S w'/\wpAnyH P .any ops Q S fuel (listed.setIfInBounds j true) a' w':=
    fun a' w' h=>⟨h.1,mR hQ hs rest fuel _ _ _ (by omega) Lu h.1 h.2⟩
   have N9:LetsOut (oD Q S (iX P ops.toList Q S rest)) ->LetsOut Q:=fun⟨a,w,h⟩=>⟨a,w,h⟩;rcases ml hw with h1 | ⟨h1,h2⟩
   ·left
    unfold Oper.wp at h1⊢;rw [iL]at h1;generalize(execOp a.eval o).run P w=r at*;cases r with
    | ok n w'=>
     cases n <;>simp only [Oper.upon]at h1⊢
     case value=>exact LX _ _ h1
     case skip=>exact LX _ _ h1
     case defer=>exact LX _ _ h1
     case enter=>
      refine bV h1 fun e w'' he=>?_;cases e with
      | returned v=>exact LX _ _ he
      | panicked c=>exact he.elim
      | outgrown=>exact N9 he
     case row=>exact Rows.mono h1 fun v w'' he=>LX _ _ he
    | halt x w'=>
     cases x <;>simp only [Oper.upon]at h1⊢
     case panic=>exact h1.elim
   ·exact .inr ⟨h1,N9 h2⟩
  ·rw [aC (by rw [hg];simp)]
   exact⟨hS,mR hQ hs rest fuel _ _ _ (by omega) Lu hS hk⟩
theorem ef {P:Program} {ops:List Oper} {Q:Exit ->Act ->World ->Prop} {id:Nat} {a:Act} {w:World} (S:World ->Prop) (l:List (Nat × Bool)) (hm:P.follows .mixedOrders=true)
  (KF:(ur ops.toArray l (Array.replicate ops.length false)&&Region.noSelect ops.toArray&&decide (l.length <=ops.length))=true) (hS:S w.drew)
  (h:iX P ops (NoPanic Q) S l a w.drew):(Code.region id ops.toArray true).wp P Q a w:=by
 simp only [bM,dm]at KF;obtain⟨⟨KF,hn⟩,hl⟩:=KF;refine wp_region_noPanic (wp_region_held (S:=S) hm ?_);refine mR (S:=S) (fun c a w h=>h) hn l _ _ a _ ?_ ?_ hS ?_
 ·simpa using hl
 ·simpa using KF
 ·simpa using h
section
variable {P:Program} {ops:List Oper} {Q:Exit ->Act ->World ->Prop} {S:World ->Prop} {i:Nat} {rest:List (Nat × Bool)} {a:Act} {w:World} {d:Tmp} {op:Op} {t:TypeId} {p:String} {af:Array Edge} {g:Option (Nat × Bool)}
theorem eB {c:Code} (J:Act ->World ->Prop) (μ:Act ->World ->Nat) (h0:J a w)
  (round:∀(R:Act ->World ->Prop) a w,J a w ->Hid (∀a' w',J a' w' ->μ a' w' < μ a w ->R a' w') ->c.wp P (Exit.then R Q) a w):(Code.loop c).wp P Q a w:=
 wp_loop J μ h0 fun a w hJ=>round _ a w hJ (fun _ _ h1 h2=>⟨h1,h2⟩)
theorem CY {c:Code} {K:Act ->World ->Prop} {id:Nat} (J:Act ->World ->Prop) (μ:Act ->World ->Nat) (X:Act ->World ->Prop) (h0:J a w)
  (round:∀(R Y:Act ->World ->Prop) a w,J a w ->Hid (∀a' w',J a' w' ->μ a' w' < μ a w ->R a' w') ->Hid (∀a w,X a w ->Y a w) ->c.wp P (Exit.then R (Exit.inBlock id (Exit.then Y Q))) a w)
  (hX:∀a w,X a w ->K a w):(Code.loop c).wp P (Exit.inBlock id (Exit.then K Q)) a w:=
 eB J μ h0 fun R a w hJ hR=>round R K a w hJ hR hX
theorem wp_cut {c:Code} (K:Act ->World ->Prop) (h1:c.wp P (fun e a w=>e= .normal/\K a w) a w) (h2:∀a w,K a w ->Q .normal a w):c.wp P Q a w:=
 Code.wp_mono (fun e a w h=>by rw [h.1];exact h2 a w h.2) h1
theorem dV (hi:nth ops i=some ⟨some d,op,t,p,af,g⟩) (hg:kW ops g a=true) (hd:Nat.ble (d+1) a.tmps.size=true) {a':Act} (hp:∀w',S w' ->wpList P #[] (BP a' w') [⟨some d,op,t,p,#[],none⟩] a w')
  (h:iX P ops Q S rest a' w):iX P ops Q S ((i,true)::rest) a w:=
 ⟨_,hi, .inl ⟨hg,d,rfl,Nat.le_of_ble_eq_true hd,a',hp,h⟩⟩
theorem E6 {b:Bool} {dst:Option Tmp} (hi:nth ops i=some ⟨dst,op,t,p,af,g⟩) (hg:kW ops g a=false) (h:iX P ops Q S rest (a.put dst undef) w):iX P ops Q S ((i,b)::rest) a w:=by
 cases b
 ·exact⟨_,hi, .inr ⟨hg,h⟩⟩
 ·exact⟨_,hi, .inr ⟨hg,h⟩⟩
theorem ed {dst:Option Tmp} (hi:nth ops i=some ⟨dst,op,t,p,af,g⟩) (hg:kW ops g a=true) (h:wpList P #[] (oD Q S (iX P ops Q S rest)) [⟨dst,op,t,p,#[],none⟩] a w):iX P ops Q S ((i,false)::rest) a w:=
 ⟨_,hi, .inl ⟨hg,h⟩⟩
def up:Nat ->Nat ->List (Nat × Bool) ->List (Nat × Bool)
 | _,0,l=>l
 | i,n+1,l=>(i,true)::up (i+1) n l
theorem eL (h:Q .normal a w):iX P ops Q S [] a w:=h
def pt:List Value ->Option Tmp ->List Value
 | l,none=>l
 | [],_=>[]
 | _::l,some 0=>undef::l
 | x::l,some (n+1)=>x::pt l (some n)
theorem IW (l:List Value) (n:Nat):pt l (some n)=l.set n undef:=by
 induction l generalizing n with
 | nil=>cases n <;>rfl
 | cons x l ih=>cases n with
  | zero=>rfl
  | succ n=>simp [pt,ih]
theorem Ix (l:List Value) (d:Option Tmp):Act.put {tmps:=l.toArray,defers:=[]} d undef={tmps:=(pt l d).toArray,defers:=[]}:=by
 cases d with
 | none=>cases l <;>rfl
 | some n=>rw [IW];simp [Act.put]
theorem sk {b:Bool} {dst:Option Tmp} {l:List Value} (hi:nth ops i=some ⟨dst,op,t,p,af,g⟩) (hg:kW ops g {tmps:=l.toArray,defers:=[]}=false) (h:iX P ops Q S rest {tmps:=(pt l dst).toArray,defers:=[]} w):iX P ops Q S ((i,b)::rest) {tmps:=l.toArray,defers:=[]} w:=
 E6 hi hg (by rw [Ix];exact h)
end
end
end Go.Proofs.YthbjdhjppbcneaaGreatDoor
