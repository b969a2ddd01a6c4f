import Derived.Test.YtjmeglibedbljaaGreatDoorProg
import Derived.WalkKit
import Derived.WalkSpells
import Derived.WalkLawsBesides
import Derived.OwnWalk
import Derived.Outline
import Derived.ScopeJumps
import Derived.Lib.Hide
import Derived.Below
import Derived.Deep.RegionWith
import Derived.Deep.QuietTactic
import Derived.BigQuiet
import Derived.OrdersHeld
import Derived.Deep.RegionHeld3
namespace Go.Proofs.YtjmeglibedbljaaGreatDoor
set_option maxRecDepth 100000
set_option maxHeartbeats 20000000
open Go.RowKit Tryz
open Lib renaming hid->V
set_option linter.all false
def ag:=@Nat.le_refl
def ah:=@List.length_append
def an:=@Go.RowKit.Below.refl
def ao:=@Option.bind_some
def aq:=@List.getElem?_eq_getElem
def aw:=@decide_eq_false
def ay:=@decide_eq_true
def az:=@if_neg
def aA:=@Go.NoPanic.normal
def aB:=@List.length_singleton
def aC:=@Go.World.size_alloc
def aD:=@List.length_cons
def aE:=@if_pos
def aF:=@Go.bodyPost_ret
def aG:=@List.getElem?_eq_some_iff
def aH:=@List.length_nil
def aI:=@List.eq_nil_of_length_eq_zero
def aJ:=@Nat.add_zero
def aK:=@List.getElem?_cons_zero
def aL:=@List.append_assoc
def aM:=@List.getElem?_toArray
def aN:=@List.mem_of_getElem?
def aO:=@Go.World.block_lt_of_cell?
def aP:=@List.length_take
def aQ:=@Nat.le_trans
def aR:=@List.take_add_one
def aS:=@Option.some.injEq
def aT:=@List.getElem?_cons_succ
def aU:=@List.take_length
def aV:=@List.mem_singleton
def aW:=@Nat.mul_one
def aX:=@List.setIfInBounds_toArray
def aY:=@Go.World.cell?_of_block
def aZ:=@Go.run_underlying
def bg:=@Nat.zero_le
def bj:=@Bool.and_eq_true
def bo:=@List.getElem?_append_right
def bp:=@Nat.lt_of_lt_of_le
def bq:=@Nat.eq_zero_or_pos
def bu:=@List.length_drop
def bx:=@List.mem_cons
def bz:=@Nat.lt_or_ge
def bA:=@Option.map_some
def bB:=@List.length_replicate
def bC:=@Option.map_eq_some_iff
def bD:=@List.getElem?_append_left
def bE:=@List.set_cons_succ
def bF:=@List.map_cons
def bG:=@List.set_cons_zero
def bH:=@List.cons_append
def bI:=@List.not_mem_nil
def bJ:=@List.length_map
def bK:=@List.flatMap_cons
def bL:=@Go.World.cell?_alloc_new
def bM:=@Bool.false_eq_true
def bN:=@Go.Lib.run_eql_slice_nil
def bO:=@List.flatten_cons
def bP:=@List.not_any_eq_all_not
def bQ:=@Int.pow_succ
def bR:=@List.append_nil
def bS:=@Go.info_parts
def bT:=@Nat.zero_add
def bU:=@List.mem_append
def bV:=@List.length_zip
def bW:=@Go.run_loadVar_row
def bX:=@Go.Sem.run_pure
def bY:=@List.nil_append
def bZ:=@Go.Calls.mono
def cd:=@Array.getElem?_toList
def cg:=@Go.rounds_succ
def cm:=@Array.getElem?_eq_some_iff
def cn:=@Bool.true_and
def cq:=@Nat.min_eq_left
def ct:=@List.map_append
def cz:=@List.drop_eq_getElem_cons
def cA:=@Go.World.cell?_setCell_other
def cB:=@Go.Result.andThen_ok
def cC:=@List.getElem?_map
def cD:=@of_decide_eq_true
def cE:=@List.take_append_drop
def cF:=@List.mem_of_mem_take
def cG:=@Int.toNat_natCast
def cH:=@or_false
def cI:=@List.getElem?_zip_eq_some
def cJ:=@Bool.decide_and
def cK:=@Go.Sem.run_bind
def cL:=@List.map_nil
def cM:=@Go.RowKit.Below.heap_setCell
def cN:=@List.take_left
def cO:=@Nat.mul_le_mul_right
def cP:=@Nat.pow_le_pow_right
def cQ:=@Go.wp_loop_rounds
def cR:=@decide_eq_true_eq
def cS:=@Go.ByteArray.toList_eq
def cT:=@if_true
def cU:=@Nat.add_mul
def cV:=@Nat.min_self
def cW:=@List.take_of_length_le
def cX:=@Int.tmod_eq_emod_of_nonneg
def cY:=@congrArg
def cZ:=@List.getElem?_take
def da:=@List.getElem?_eq_none
def db:=@List.pairwise_append
def dc:=@Go.frozen_of_row
def dd:=@List.getLast?_cons_cons
def de:=@beq_eq_false_iff_ne
def df:=@List.drop_left
def dg:=@List.dropLast_concat_getLast
def dh:=@decide_eq_decide
def di:=@Nat.add_sub_cancel
def dj:=@Option.isNone_some
def dk:=@Option.isNone_none
def dm:=@Nat.le_of_eq
def dn:=@Nat.two_pow_pos
def dq:=@List.zip_append
def dr:=@List.length_set
def dt:=@List.take_left'
def du:=@Bool.not_eq_true'
def dv:=@beq_iff_eq
def dw:=@Bool.or_eq_false_iff
def dx:=@List.length_dropLast
def dy:=@Go.Region.noSelect_spec
def dz:=@Go.heap_alloc_new
def dA:=@List.map_toArray
def dB:=@if_false
def dC:=@UInt8.toNat_inj
def dD:=@Bool.eq_iff_iff
def dE:=@List.append_eq_nil_iff
def dF:=@List.size_toArray
def dG:=@Go.wp_region_noPanic
def dH:=@List.any_eq_false
def dI:=@Decidable.not_not
def dJ:=@List.singleton_append
def dK:=@Go.mem_ready
def dL:=@Go.Region.free_spec
def dM:=@Option.getD_some
def dN:=@Nat.mul_le_mul_left
def dO:=@Option.any_some
def dP:=@List.getLast?_eq_getElem?
def dQ:=@Bool.or_eq_true
def dR:=@List.mem_or_eq_of_mem_set
def dS:=@and_congr_left'
def dT:=@Go.grownCap_le_maxLen
def dU:=@Go.wpList_plain
def dV:=@Go.wpOp_mono
def dW:=@Array.setIfInBounds_comm
def dX:=@Nat.zero_mul
def dY:=@List.mem_replicate
def dZ:=@Bool.false_ne_true
def ea:=@Go.ready_mono
def ed:=@Go.step_scope
def ee:=@Nat.le_succ
def ef:=@Nat.pow_add
def eg:=@Prod.mk.injEq
section
def Stop (p:Prop):Prop:=p
theorem Stop.out {p:Prop} (h:Stop p):p:=h
def eO (v:Value) (k:Nat):Prop:=v.ownBlock=some k
structure ep (S:Nat ->Prop) (w w':World):Prop where
 os:w'.os=w.os
 tape:w'.tape=w.tape
 output:w'.output=w.output
 size:w.heap.size <=w'.heap.size
 block:∀k,k < w.heap.size ->¬ S k ->w'.heap[k]?=w.heap[k]?
theorem ep.refl (S:Nat ->Prop) (w:World):ep S w w:=⟨rfl,rfl,rfl,ag _,fun _ _ _=>rfl⟩
theorem ep.trans {S S':Nat ->Prop} {a b c:World} (h:ep S a b) (k:ep S' b c) (hs:∀i,S' i ->S i\/a.heap.size <=i):ep S a c:=
 ⟨k.os.trans h.os,k.tape.trans h.tape,k.output.trans h.output,aQ h.size k.size,fun i hi hn=>
  (k.block i (bp hi h.size) (fun s=>(hs i s).elim hn (fun h=>by omega))).trans (h.block i hi hn)⟩
theorem ep.mono {S S':Nat ->Prop} {a b:World} (h:ep S a b) (hs:∀i,S i ->S' i):ep S' a b:=
 ⟨h.os,h.tape,h.output,h.size,fun i hi hn=>h.block i hi (fun s=>hn (hs i s))⟩
theorem ep.below {S:Nat ->Prop} {B:Nat} {a b:World} (h:ep S a b) (hB:B <=a.heap.size) (hs:∀i,S i ->B <=i):Below B a b:=
 ⟨h.os,h.tape,h.output,h.size,fun i hi=>h.block i (by omega) (fun s=>by have:=hs i s;omega)⟩
theorem ep.et {S:Nat ->Prop} {a b:World} (h:Below a.heap.size a b):ep S a b:=
 ⟨h.os,h.tape,h.output,h.size,fun i hi _=>h.block i hi⟩
theorem ep.drew {S:Nat ->Prop} {a b:World} (h:ep S a b):ep S a b.drew:=⟨h.os,h.tape,h.output,h.size,h.block⟩
theorem ep.alloc {S:Nat ->Prop} {a b:World} (h:ep S a b) (o:Obj):ep S a (b.alloc o):=
 h.trans (ep.et ((an _ _).alloc (ag _) o) (S:=fun _=>False)) (fun _ h=>h.elim)
theorem fY {B:Nat} {a b:World} (h:Below B a.drew b):Below B a b:=⟨h.os,h.tape,h.output,h.size,h.block⟩
theorem ep.C2 {S:Nat ->Prop} {a b:World} (h:ep S a.drew b):ep S a b:=⟨h.os,h.tape,h.output,h.size,h.block⟩
def eQ (w:World) (v v':Value):Prop:=∀k,eO v' k ->eO v k\/w.heap.size <=k
theorem eQ.refl (w:World) (v:Value):eQ w v v:=fun _ h=> .inl h
theorem eQ.trans {w w1:World} {a b c:Value} (h:eQ w a b) (k:eQ w1 b c) (hs:w.heap.size <=w1.heap.size):eQ w a c:=
 fun i hi=>(k i hi).elim (h i) (fun h=> .inr (by omega))
theorem ng {w w':World} {S:Nat ->Prop} {base e size n:Nat} {v:Value} {xs:List Value} (h:w.ownsRow base e size v n xs) (hk:ep S w w') (hs:∀k,eO v k ->¬ S k):
  w'.ownsRow base e size v n xs:=by
 refine⟨h.1,?_⟩;rcases h.2 with hn | ⟨g,cap,cur,rfl,hb,hgg,rest⟩
 ·exact .inl hn
 ·refine .inr ⟨g,cap,cur,rfl,hb,?_,rest⟩
  rw [hk.block g (cm.1 hgg).1 (hs g rfl)];exact hgg
theorem eM {w:World} {base e size n:Nat} {v:Value} {xs:List Value} (h:w.ownsRow base e size v n xs) {k:Nat} (hk:eO v k):base <=k/\k < w.heap.size:=h.lt k hk
theorem nH {w:World} {base base' e size n:Nat} {v:Value} {xs:List Value} (h:w.ownsRow base e size v n xs) (hs:∀k,eO v k ->base' <=k):w.ownsRow base' e size v n xs:=by
 refine⟨h.1,?_⟩;rcases h.2 with hn | ⟨g,cap,cur,rfl,hb,rest⟩
 ·exact .inl hn
 ·exact .inr ⟨g,cap,cur,rfl,hs g rfl,rest⟩
section
variable {P:Program} (w:World)
theorem uA (base:Nat) (t ty e:TypeId) (i:TypeInfo) (z:Value) (size bytes:Nat) (ht:P.underlying t=some (.slice e)) (hi:P.info? e=some i) (hz:i.zero=some z)
  (Sw:i.size=size) (O8:i.bytes=bytes) (Sh:z.cells.size=size) (Oc:0 < size)
  (v:Value) (n:Nat) (xs:List Value) (Nl:w.ownsRow base e size v n xs)
  (a:Addr) (m c:Nat) (news:List Value) (hl:news.length=m*size) (QQ:∀j u,news[j]?=some u ->w.cell? (a.add j)=some u) (h1:∀u∈news,u.oneCell'=true)
  (QK:n+m <=maxLen) (Qo:(n+m)*bytes <=140737488355328) (NN:base <=w.heap.size):
  ∃v' w',(Builtin.append_ #[t,t] ty #[v, .slice (some a) m c]).run P w= .ok v' w'/\w'.ownsRow base e size v' (n+m) (xs++news)/\ep (eO v) w w'/\eQ w v v':=by
 subst Sw;subst O8;have hsmall:n+m <=9223372036854775807:=by simp only [maxLen]at QK;omega
 have hlen:(xs++news).length=(n+m)*i.size:=by rw [ah,Nl.1,hl,cU]
 have grown:∀(old:Nat),old < n+m ->
   (w.drew.alloc (.cells (xs.toArray++news.toArray++Builtin.zeroCells z.cells (grownCap w (n+m) old e - (n+m))) e)).ownsRow base e i.size
    (.slice (some ⟨w.heap.size,0,none⟩) (n+m) (grownCap w (n+m) old e)) (n+m) (xs++news)/\
   ep (eO v) w (w.drew.alloc (.cells (xs.toArray++news.toArray++Builtin.zeroCells z.cells (grownCap w (n+m) old e - (n+m))) e))/\
   eQ w v (.slice (some ⟨w.heap.size,0,none⟩) (n+m) (grownCap w (n+m) old e)):=by
  intro old ho;have hge:=grownCap_ge w (n+m) old e;have OS:grownCap w (n+m) old e <=maxLen:=dT w (n+m) old e QK;refine⟨⟨hlen, .inr ⟨w.heap.size,_,_,rfl,NN,dz w.drew _,hge,OS,?_,?_⟩⟩,(ep.refl _ _).drew.alloc _,fun k hk=> .inr ?_⟩
  ·simp only [Array.size_append,dF,size_zeroCells,Sh,Nl.1,hl, <- cU]
   congr 1
   omega
  ·simp only [Array.toList_append,aL]
   rw [<- aL, <- hlen];exact cN
  ·simp [eO,Value.ownBlock]at hk
   omega
 rcases Nl.2 with⟨rfl,rfl⟩ | ⟨g,cap,cur,rfl,hbg,hg,hnc,OS,Ro,Ts⟩
 ·have hx:xs=[]:=aI (by simpa using Nl.1)
  subst hx;by_cases hm:m=0
  ·subst hm
   have hn:news=[]:=aI (by simpa using hl);subst hn;refine⟨.slice none 0 0,w,?_,World.ownsRow_nil w base e i.size,ep.refl _ _,eQ.refl _ _⟩;simp [Builtin.append_,aZ ht,sizeOf,typeInfo,hi,Builtin.lenOf,Builtin.firstCells,loadCells,loadCellsFrom]
  ·have hr:=run_append_nil (P:=P) w t ty e i z ht hi hz a m c news hl QQ (by omega) (by omega) (by have hb:=Qo;simp only [bT]at hb;omega)
   have RD:=grown 0 (by omega);simp only [bT,bY,Array.empty_append]at RD⊢;exact⟨_,_,hr,RD.1,RD.2.1,RD.2.2⟩
 ·by_cases QR:n+m <=cap
  ·have hfit:n*i.size+news.length <=cur.size:=by rw [hl,Ro, <- cU];exact cO _ QR
   have hr:=run_append_room (P:=P) w t ty e i ht hi g n cap cur hg a m c news hl QQ h1 QR hfit;refine⟨_,_,hr,⟨hlen, .inr ⟨g,cap,_,rfl,hbg,setRow_heap w g cur _ e _ hg,QR,OS,?_,?_⟩⟩,⟨rfl,rfl,rfl,by simp,fun k _ hk=>setRow_other w g k _ (fun e=>hk (by simp [eO,Value.ownBlock,e]))⟩,fun k hk=> .inl hk⟩
   ·simp only [dF,ah,aP,bu,Array.length_toList]
    omega
   ·rw [Ts, <- hlen]
    exact cN
  ·have holds:∀j u,xs[j]?=some u ->w.cell? ((⟨g,0,none⟩:Addr).add j)=some u:=Nl.cells (g:=g) rfl
   have hr:=run_append_grow (P:=P) w t ty e i z ht hi hz ⟨g,0,none⟩ n cap xs Nl.1 holds a m c news hl QQ (by omega) (by omega) (growslice_fits (by omega) Qo);have RD:=grown cap (by omega);exact⟨_,_,hr,RD.1,RD.2.1,RD.2.2⟩
theorem ru {ops:Array Oper} {rest:List Oper} {o:Oper} {a:Act} {Q:Exit ->Act ->World ->Prop} (P0:o.guard=none) (s x:Operand) (t:TypeId)
  (ho:o.op= .call {callee:= .builtin .append,args:=#[s,x],argTypes:=#[t,t]})
  (base:Nat) (e:TypeId) (i:TypeInfo) (z:Value) (size bytes:Nat) (ht:P.underlying t=some (.slice e)) (hi:P.info? e=some i) (hz:i.zero=some z)
  (Sw:i.size=size) (O8:i.bytes=bytes) (Sh:z.cells.size=size) (Oc:0 < size)
  (v:Value) (n:Nat) (xs:List Value) (hs:a.eval s=v) (Nl:w.ownsRow base e size v n xs)
  (ad:Addr) (m c:Nat) (news:List Value) (hx:a.eval x= .slice (some ad) m c) (hl:news.length=m*size) (QQ:∀j u,news[j]?=some u ->w.cell? (ad.add j)=some u) (h1:∀u∈news,u.oneCell'=true)
  (QK:n+m <=maxLen) (Qo:(n+m)*bytes <=140737488355328) (NN:base <=w.heap.size)
  (h:∀v' w',w'.ownsRow base e size v' (n+m) (xs++news) ->ep (eO v) w w' ->eQ w v v' ->wpList P ops Q rest (a.put o.dst v') w'):wpList P ops Q (o::rest) a w:=
 dU P0 fun _ hK=>by
  obtain⟨v',w',hr,h2,h3,h4⟩:=uA (P:=P) w base t o.type e i z size bytes ht hi hz Sw O8 Sh Oc v n xs Nl ad m c news hl QQ h1 QK Qo NN;unfold Oper.wp execOp;simp only [ho,resolve,invoke,builtin,cK,bX,cB,dA,bF,cL,hs,hx,hr];exact hK _ _ (h v' w' h2 h3 h4)
theorem tC {ops:Array Oper} {rest:List Oper} {o:Oper} {a:Act} {Q:Exit ->Act ->World ->Prop} (P0:o.guard=none) (s x:Operand) (t:TypeId)
  (ho:o.op= .call {callee:= .builtin .append,args:=#[s,x],argTypes:=#[t,t]})
  (base:Nat) (e:TypeId) (i:TypeInfo) (z:Value) (size bytes:Nat) (ht:P.underlying t=some (.slice e)) (hi:P.info? e=some i) (hz:i.zero=some z)
  (Sw:i.size=size) (O8:i.bytes=bytes) (Sh:z.cells.size=size) (Oc:0 < size)
  (v:Value) (n:Nat) (xs:List Value) (hs:a.eval s=v) (Nl:w.ownsRow base e size v n xs)
  (news:List Value) (hx:a.eval x= .slice (some ⟨w.heap.size,0,none⟩) 1 1) (hl:news.length=size) (h1:∀u∈news,u.oneCell'=true)
  (QK:n+1 <=maxLen) (Qo:(n+1)*bytes <=140737488355328) (NN:base <=w.heap.size)
  (h:∀v' w',w'.ownsRow base e size v' (n+1) (xs++news) ->ep (eO v) w w' ->eQ w v v' ->wpList P ops Q rest (a.put o.dst v') w'):wpList P ops Q (o::rest) a (w.alloc (.cells news.toArray e)):=by
 have hk:ep (eO v) w (w.alloc (.cells news.toArray e)):=(ep.refl _ _).alloc _;refine ru (P:=P) (w.alloc (.cells news.toArray e)) P0 s x t ho base e i z size bytes ht hi hz Sw O8 Sh Oc v n xs hs (Nl.alloc _) ⟨w.heap.size,0,none⟩ 1 1 news hx (by omega) ?_ h1 QK Qo (by simp;omega) ?_
 ·intro j u hu
  have QS:(⟨w.heap.size,0,none⟩:Addr).add j=⟨w.heap.size,j,none⟩:=by unfold Addr.add;split <;>simp_all
  rw [QS,bL];simpa using hu
 ·intro v' w' h2 h3 h4
  refine h v' w' h2 (hk.trans h3 (fun i hi=> .inl hi)) (fun k hk'=>(h4 k hk').imp id (fun h=>?_));have:w.heap.size <=(w.alloc (.cells news.toArray e)).heap.size:=by simp
  omega
end
abbrev bv (x:UInt8):Value:= .int .u8 (x.toNat:Int)
theorem CH (l:List UInt8):∀u∈l.map bv,u.oneCell'=true:=by
 intro u hu;obtain⟨x,_,rfl⟩:=List.mem_map.1 hu;rfl
theorem pn:(prog.info? 5).map (fun i=>(i.zero,i.size,i.bytes))=some (some (.int .u8 0),1,1):=by kernel_rfl
def eC (w:World) (B:Nat) (v:Value) (l:List UInt8):Prop:=w.ownsRow B 5 1 v l.length (l.map bv)
theorem eC.nil (w:World) (B:Nat):eC w B (.slice none 0 0) []:=World.ownsRow_nil w B _ _
theorem eC.keeps {w w':World} {S:Nat ->Prop} {B:Nat} {v:Value} {l:List UInt8} (h:eC w B v l) (hk:ep S w w') (hs:∀k,eO v k ->¬ S k):eC w' B v l:=ng h hk hs
theorem eC.below {w w':World} {B:Nat} {v:Value} {l:List UInt8} (h:eC w B v l) (hk:Below w.heap.size w w'):eC w' B v l:=
 ng h (ep.et (S:=fun _=>False) hk) (fun _ _ h=>h)
theorem fm {P:Program} (w:World) {ops:Array Oper} {rest:List Oper} {o:Oper} {a:Act} {Q:Exit ->Act ->World ->Prop} (P0:o.guard=none) (s x:Operand)
  (hP:P=prog) (ho:o.op= .call {callee:= .builtin .append,args:=#[s,x],argTypes:=#[104,104]})
  (B:Nat) (v:Value) (l:List UInt8) (hs:a.eval s=v) (Nl:eC w B v l)
  (y:UInt8) (m:Int) (hm:m=y.toNat) (hx:a.eval x= .slice (some ⟨w.heap.size,0,none⟩) 1 1)
  (QK:l.length <=140737488355327) (NN:B <=w.heap.size)
  (h:∀v' w',eC w' B v' (l++[y]) ->ep (eO v) w w' ->eQ w v v' ->wpList P ops Q rest (a.put o.dst v') w'):wpList P ops Q (o::rest) a (w.alloc (.cells #[.int .u8 m] 5)):=by
 subst hP;subst hm;obtain⟨i0,hi,Po,Oi,O1⟩:=bS pn;refine tC (P:=prog) w P0 s x 104 ho B 5 i0 (.int .u8 0) 1 1 (by kernel_rfl) hi Po Oi O1 rfl (by decide) v l.length (l.map bv) hs Nl [bv y] hx rfl (CH [y]) (by simp only [maxLen];omega) (by omega) NN ?_;intro v' w' h2 h3 h4;refine h v' w' ?_ h3 h4;simpa [eC] using h2
theorem kF {P:Program} {a:Act} {w:World} {Q:Exit ->Act ->World ->Prop} {c rest:Code} (l:Nat) (J:Act ->World ->Prop) (μ:Act ->World ->Nat) (hf:findLabel c l=some (.seq .skip rest))
  (pass:∀a w,J a w ->rest.wp P (Exit.jump l (fun a' w'=>J a' w'/\μ a' w' < μ a w) Q) a w)
  (first:(∀a w,J a w ->rest.wp P (Exit.jump l J Q) a w) ->c.wp P (Exit.jump l J Q) a w):(Code.scope c).wp P Q a w:=by
 refine wp_scope_jumps l J μ hf (first fun a w hJ=>Code.wp_mono ?_ (pass a w hJ)) fun a w hJ=>wp_seq (wp_skip ?_)
 ·intro e a' w' h
  cases e <;>first | exact h | exact⟨h.1,h.2.1⟩
 ·exact pass a w hJ
theorem lT {l:Nat} {J:Act ->World ->Prop} {μ:Act ->World ->Nat} {Q:Exit ->Act ->World ->Prop} {a:Act} {w:World} {m:Nat} (h:J a w) (hm:μ a w < m):Exit.jump l (fun a' w'=>J a' w'/\μ a' w' < m) Q (.goto l) a w:=⟨rfl,h,hm⟩
theorem iW (l:Nat) (J:Act ->World ->Prop) (Q:Exit ->Act ->World ->Prop) (a:Act) (w:World):Exit.jump l J Q .ret a w=Q .ret a w:=rfl
def eZ (w:World) (v:Value) (l:List UInt8):Prop:=
 ∃a cap,v= .slice a l.length cap/\l.length <=cap/\cap <=maxLen/\∀i x,l[i]?=some x ->∃b off,a=some ⟨b,off,none⟩/\w.cell? ⟨b,off+i,none⟩=some (bv x)
theorem eZ.nil (w:World):eZ w (.slice none 0 0) []:=⟨none,0,rfl,ag _,by simp [maxLen],by simp⟩
theorem eZ.below {w w':World} {v:Value} {l:List UInt8} (h:eZ w v l) (hb:Below w.heap.size w w'):eZ w' v l:=by
 obtain⟨a,cap,hv,h1,h2,h3⟩:=h;refine⟨a,cap,hv,h1,h2,fun i x hx=>?_⟩;obtain⟨b,off,ha,hc⟩:=h3 i x hx;exact⟨b,off,ha,by rw [hb.cell (aO w _ hc)];exact hc⟩
theorem eC.gK {w:World} {B:Nat} {v:Value} {l:List UInt8} (h:eC w B v l):eZ w v l:=by
 obtain⟨hl,hv | ⟨g,cap,cur,hv,hb,hg,hn,hm,hs,ht⟩⟩:=h
 ·obtain⟨rfl,h0⟩:=hv
  obtain rfl:l=[]:=aI h0;exact eZ.nil w
 ·refine⟨_,cap,hv,hn,hm,fun i x hx=>⟨g,0,rfl,?_⟩⟩
  rw [cell_of_row w g _ cur _ _ hg,bT];have h1:(l.map bv)[i]?=some (bv x):=by simp [hx]
  rw [<- ht,cZ]at h1;split at h1
  ·simpa using h1
  ·cases h1
theorem eZ.take {w:World} {a:Option Addr} {n cap:Nat} {l:List UInt8} (h:eZ w (.slice a n cap) l) (k:Nat) (hk:k <=l.length):eZ w (.slice a k cap) (l.take k):=by
 obtain⟨a',NK,hv,h1,h2,h3⟩:=h;injection hv with e1 e2 e3;subst e1 e2 e3;refine⟨a,cap,?_,?_,h2,fun i x hx=>?_⟩
 ·rw [aP,cq hk]
 ·rw [aP];omega
 ·rw [cZ]at hx
  split at hx
  ·exact h3 i x hx
  ·cases hx
def bs (l:List UInt8):ByteArray:=⟨l.toArray⟩
theorem foldl_push:∀(l:List UInt8) (s:ByteArray),((l.map fun x=>(x.toNat:Int)).foldl (fun r n=>r.push (UInt8.ofNat n.toNat)) s)=⟨s.data++l.toArray⟩
 | [],s=>by simp
 | x::l,s=>by
  simp only [bF,List.foldl_cons];rw [foldl_push l];simp [ByteArray.push]
theorem qN {w:World} {v:Value} {l:List UInt8} (h:eZ w v l):(convert 104 9 v).run prog w= .ok (.string (bs l)) w:=by
 obtain⟨a,cap,rfl,h1,h2,h3⟩:=h;rw [run_convert_bytes_string w 104 9 5 a l.length cap (by kernel_rfl) (by kernel_rfl) (by kernel_rfl)];cases l with
 | nil=>
  cases a with
  | none=>rfl
  | some a=>rfl
 | cons x l=>
  obtain⟨b,off,rfl,_⟩:=h3 0 x rfl;have hl:=run_loadCells_list (P:=prog) w ⟨b,off,none⟩ ((x::l).map bv) (fun j u hu=>by
   rw [cC]at hu;cases hj:(x::l)[j]? with
   | none=>rw [hj]at hu;cases hu
   | some y=>
    rw [hj]at hu;simp at hu;subst hu;obtain⟨b',off',he,hc⟩:=h3 j y hj;injection he with he;injection he with e1 e2;subst e1 e2;have QS:(⟨b,off,none⟩:Addr).add j=⟨b,off+j,none⟩:=by
     unfold Addr.add;split <;>simp_all
    rw [QS];exact hc)
  rw [bJ]at hl;rw [run_bytesToString w ⟨b,off,none⟩ (x::l).length cap ((x::l).map fun x=>(x.toNat:Int)) (by rw [hl];simp [List.map_map])];rw [foldl_push];have he:ByteArray.empty.data=#[]:=rfl;rw [he];simp [bs]
theorem lP (l:List UInt8):(bs l).toList=l:=by
 rw [cS];rfl
theorem eV {a b:Int} (h:a=b):(a==b)=true:=by simp [h]
theorem eh {a b:Int} (h:a≠b):(a==b)=false:=by simp [h]
theorem fB {a b:Int} (h:a≠b):(a !=b)=true:=bne_iff_ne.2 h
theorem kT {a b:Int} (h:a=b):(a !=b)=false:=by rw [h];exact bne_self_eq_false b
theorem Mp:∀x:Fin 256,x.val ||| 128=x.val %128+128:=by decide+kernel
theorem wR (n:Nat) (h:n < 256):bits .or .u8 (n:Int) 128=((n %128+128:Nat):Int):=by
 have h0:=u8_or_nat n 128 h (by omega);rw [Mp ⟨n,h⟩]at h0;exact h0
def b8 (n:Nat):UInt8:=UInt8.ofNat n
theorem gZ {n:Nat} (h:n < 256):(b8 n).toNat=n:=by simpa [b8] using Nat.mod_eq_of_lt h
end
def jV:Nat ->Nat ->List UInt8
 | 0,_=>[]
 | f+1,n=>if n < 128 then [b8 n]else b8 (n %128+128)::jV f (n/128)
def ff (n:Nat):List UInt8:=jV 10 n
def LO (xs:List UInt8) (u:Nat) (B:Nat) (b:Value) (w w':World) (v:Value) (n:Nat):Prop:=
 ∃(ys:List UInt8) (k f:Nat),eC w' B v ys/\ep (eO b) w w'/\eQ w b v/\ys.length <=xs.length+k/\k+f=9/\n < 2*128^f/\ys++jV (f+1) n=xs++jV 10 u
def Jq (xs:List UInt8) (u:Nat) (B:Nat) (b:Value) (w:World) (e:Ending) (w':World):Prop:=
 ∃v,e= .returned v/\eC w' B v (xs++ff u)/\ep (eO b) w w'/\eQ w b v
theorem Lm (n:Nat):bits .or .u8 ((n:Int) %256) 128=((b8 (n %128+128)).toNat:Int):=by
 have h:=wR (n %256) (by omega);rw [show n %256 %128=n %128 from by omega]at h;rw [gZ (by omega), <- h];rfl
theorem jj (b:Value) (xs:List UInt8) (u:Nat) (h1:u < 18446744073709551616) (B:Nat) (w:World) (Nl:eC w B b xs) (hn:xs.length <=1000000000) (hB:B <=w.heap.size):
  Calls prog 270 #[b, .int .u64 u] w (Jq xs u B b w):=by
 go_enter func270,ntmps270;go_wp2;refine kF 0 (fun a' w'=>∃(v:Value) (n:Nat) (u5 u6 u7 u8 u9 u10 Tt SX Tu Tv Tw u16 Tx Ty Tz:Value),a'={tmps:=#[v, .int .u64 n,undef,undef, .slice none 0 0,u5,u6,u7,u8,u9,u10,Tt,SX,Tu,Tv,Tw,u16,Tx,Ty,Tz],defers:=[]}/\LO xs u B b w w' v n) (fun a' _=>(intOf (a'.tmps.getD 1 undef)).toNat) rfl ?_ ?_
 ·rintro a' w1 ⟨v,n,u5,u6,u7,u8,u9,u10,Tt,SX,Tu,Tv,Tw,u16,Tx,Ty,Tz,rfl,hJ⟩
  obtain⟨ys,k,f,Qv,hk,hs,hlen,hkf,hnf,heq⟩:=hJ;have HE:=V heq;have HK:=V hkf;have hk9:k <=9:=by omega
  clear heq hkf Nl;have Oc:=hk.size;by_cases Nu:n < 128
  ·go_wp2_with (first | (at_builtin;refine fm w1 rfl _ _ rfl rfl B v ys rfl Qv (b8 n) _ ?_ rfl ?_ ?_ ?_))
   ·rw [gZ (by omega)]
   ·omega
   ·omega
   ·intro v' w2 NU Nw NC
    go_wp2;rw [iW];go_ret;refine⟨v',rfl,?_,hk.trans Nw ?_,hs.trans NC Oc⟩
    ·have h:=HE.out
     rw [jV,aE Nu]at h;rw [ff, <- h];exact NU
    ·exact fun i hi=>hs i hi
  ·go_wp2_with (first | (at_builtin;refine fm w1 rfl _ _ rfl rfl B v ys rfl Qv (b8 (n %128+128)) _ (Lm n) rfl ?_ ?_ ?_))
   ·omega
   ·omega
   ·intro v' w2 NU Nw NC
    go_wp2
    go_step3
    have hf:f≠0:=by
     rintro rfl;omega
    obtain⟨f',rfl⟩:∃f',f=f'+1:=⟨f - 1,by omega⟩;have hnq:((n:Int)/128)=((n/128:Nat):Int):=by omega
    rw [hnq];refine lT ⟨v',n/128,_,_,_,_,_,_,_,_,_,_,_,_,_,_,_,rfl,ys++[b8 (n %128+128)],k+1,f',NU,hk.trans Nw (fun i hi=>hs i hi),hs.trans NC Oc,?_,?_,?_,?_⟩ ?_
    ·simp
     omega
    ·have:=HK.out
     omega
    ·rw [Nat.pow_succ]at hnf
     omega
    ·have h:=HE.out
     rw [jV,az Nu]at h;rw [<- h];simp
    ·simp [intOf]
     omega
 ·intro H
  apply wp_seq_k;intro K hK;apply wp_label;apply hK;exact H _ _ ⟨b,u,_,_,_,_,_,_,_,_,_,_,_,_,_,_,_,rfl,xs,0,9,Nl,ep.refl _ _,eQ.refl _ _,by omega,rfl,by omega,rfl⟩
def cont:List UInt8 ->Nat
 | []=>0
 | x::l=>if 128 <=x.toNat then cont l+1 else 0
theorem za:∀l:List UInt8,cont l <=l.length
 | []=>ag _
 | x::l=>by
  have:=za l;simp only [cont,aD];split <;>omega
theorem Ef:∀(l:List UInt8) (i:Nat) (x:UInt8),l[i]?=some x ->i < cont l ->128 <=x.toNat
 | [],i,x,h,_=>by simp at h
 | y::l,0,x,h,hi=>by
  simp at h;subst h;simp only [cont]at hi;split at hi
  ·assumption
  ·omega
 | y::l,i+1,x,h,hi=>by
  simp only [cont]at hi;split at hi
  ·exact Ef l i x (by simpa using h) (by omega)
  ·omega
theorem DC:∀(l:List UInt8) (x:UInt8),l[cont l]?=some x ->x.toNat < 128
 | [],x,h=>by simp at h
 | y::l,x,h=>by
  simp only [cont]at h;split at h
  ·exact DC l x (by simpa using h)
  ·rename_i hy
   simp at h;subst h;omega
def fu (bits:Int) (l:List UInt8):Nat × Int:=
 if bits < 1\/64 < bits then(0,3)
 else if(bits+6)/7 <=cont l then(0,1)
 else if cont l=l.length then(0,2)
 else(cont l+1,0)
def K7 (bits:Int) (l:List UInt8) (w:World) (e:Ending) (w':World):Prop:=
 e= .returned (.tuple #[.int .i64 (fu bits l).1, .int .i64 (fu bits l).2])/\w=w'
def MQ (l:List UInt8) (fD:Nat) (w w':World) (n:Nat):Prop:=w'=w/\n <=fD/\n <=cont l
theorem nL (b:Value) (l:List UInt8) (bits:Int) (w:World) (hb:eZ w b l) (Nx: -9223372036854775808 <=bits) (No:bits <=9223372036854775807):
  Calls prog 281 #[b, .int .i64 bits] w (K7 bits l w):=by
 obtain⟨a,cap,rfl,hl,hm,hc⟩:=hb;unfold maxLen at hm;have HC:=V hc;clear hc;by_cases h1:bits < 1
 ·go_enter func281,ntmps281
  go_wp2
  go_step3
  go_wp2;rw [Exit.noGoto_ret]
  go_ret2
  exact⟨by rw [fu,aE (.inl h1)];rfl,rfl⟩
 by_cases h2:64 < bits
 ·go_enter func281,ntmps281
  go_wp2
  go_step3
  go_wp2;rw [Exit.noGoto_ret]
  go_ret2
  exact⟨by rw [fu,aE (.inr h2)];rfl,rfl⟩
 have Sx:=za l;obtain⟨q,hq⟩:∃q:Nat,(q:Int)=(bits+6)/7:=⟨((bits+6)/7).toNat,by omega⟩;have hq0:1 <=q:=by omega
 have hq1:q <=10:=by omega
 have HQ:=V hq;clear hq;go_enter func281,ntmps281;go_wp2;refine kF 0 (fun a' w'=>∃(n:Nat) (u8 u9 u10 Tt SX Tu Tv Tw u16 Tx Ty Tz u20 u21 u22 u23 u24 u25 u26 u27 u28 u29 u30 u31 u32 u33 u34 u35 u36:Value),a'={tmps:=#[.slice a l.length cap, .int .i64 bits,undef,undef, .int .i64 0, .int .i64 0, .int .i64 n, .int .i64 q,u8,u9,u10,Tt,SX,Tu,Tv,Tw,u16,Tx,Ty,Tz,u20,u21,u22,u23,u24,u25,u26,u27,u28,u29,u30,u31,u32,u33,u34,u35,u36],defers:=[]}/\MQ l q w w' n) (fun a' _=>(q - (intOf (a'.tmps.getD 6 undef)).toNat)) rfl ?_ ?_
 ·rintro a' w1 ⟨n,u8,u9,u10,Tt,SX,Tu,Tv,Tw,u16,Tx,Ty,Tz,u20,u21,u22,u23,u24,u25,u26,u27,u28,u29,u30,u31,u32,u33,u34,u35,u36,rfl,hJ⟩
  obtain⟨rfl,hn,hnc⟩:=hJ;by_cases e1:n=q
  ·subst e1
   go_wp2;rw [iW]
   go_ret2
   exact⟨by rw [fu,az (by omega),aE (by have:=HQ.out;omega)];rfl,rfl⟩
  have b1:=eh (a:=(n:Int)) (b:=(q:Int)) (by omega);by_cases e2:n=l.length
  ·subst e2
   go_wp2;rw [iW]
   go_ret2
   exact⟨by rw [fu,az (by omega),az (by have:=HQ.out;omega),aE (by omega)];rfl,rfl⟩
  have b2:=eh (a:=(n:Int)) (b:=(l.length:Int)) (by omega);obtain⟨x,hx⟩:∃x,l[n]?=some x:=⟨_,aq (show n < l.length by omega)⟩;obtain⟨b,off,rfl,hc⟩:=HC.out n x hx;have hx8:=x.toNat_lt;have HX:=V hx;clear hx;have Nu:n < l.length:=by omega
  by_cases e3:128 <=x.toNat
  ·have hnc':n < cont l:=by
    rcases bz n (cont l)with h | h
    ·exact h
    ·obtain rfl:n=cont l:=by omega
     have:=DC l x HX.out;omega
   go_wp2
   go_step3
   simp only [Exit.inBlock,Exit.then];refine lT ⟨n+1,_,_,_,_,_,_,_,_,_,_,_,_,_,_,_,_,_,_,_,_,_,_,_,_,_,_,_,_,_,rfl,rfl,by omega,by omega⟩ ?_;simp [intOf];omega
  ·have hnc':n=cont l:=by
    rcases bz n (cont l)with h | h
    ·have:=Ef l n x HX.out h
     omega
    ·omega
   have HN:=V hnc';clear hnc';go_wp2;rw [iW]
   go_ret2
   refine⟨?_,rfl⟩;have:=HN.out;have:=HQ.out;rw [fu,az (by omega),az (by omega),az (by omega), <- HN.out]
   go_num
 ·intro H
  have Hh:=V H;clear H;go_wp2
  go_step3
  go_step
  go_step
  have e7:(bits+7 - 1)/7=(q:Int):=by have:=HQ.out;omega
  rw [e7];refine Hh.out _ _ ⟨0,_,_,_,_,_,_,_,_,_,_,_,_,_,_,_,_,_,_,_,_,_,_,_,_,_,_,_,_,_,rfl,rfl,by omega,by omega⟩
def Jy (l m:List UInt8) (w:World) (e:Ending) (w':World):Prop:=e= .returned (.bool (l==m))/\w=w'
theorem mC (a b:Value) (l m:List UInt8) (w:World) (ha:eZ w a l) (hb:eZ w b m):
  Calls prog 282 #[a,b] w (Jy l m w):=by
 have h1:=qN ha;have h2:=qN hb;clear ha hb;go_enter func282,ntmps282;go_wp2;go_ret;exact⟨by rw [lP,lP];rfl,rfl⟩
section
def nth {α:Type}:List α ->Nat ->Option α
 | [],_=>none
 | x::_,0=>some x
 | _::l,n+1=>nth l n
theorem n4 {α:Type}:∀(l:List α) (n:Nat),nth l n=l[n]?
 | [],_=>by simp [nth]
 | x::l,0=>by simp [nth]
 | x::l,n+1=>by simp [nth,n4 l n]
def isVal:Op ->Bool
 | .move _ | .assign _ | .pick .. | .binOp .. | .unOp .. | .convert .. | .slice .. | .fieldAddr .. | .field .. | .indexAddr .. | .index .. | .extract .. | .load .. | .makeInterface .. | .nilCheck _ | .build .. =>true
 | .call {callee:= .builtin .len, .. }=>true
 | _=>false
theorem lU {P:Program} {ρ:Operand ->Value} {o:Oper} (h:isVal o.op=true) (w:World):
  (∃v w',(execOp ρ o).run P w= .ok (.value v) w')\/(∃x w',(execOp ρ o).run P w= .halt x w'):=by
 have key:∀s:Sem Value,(∃v w',(do pure (Next.value (<- s)):Sem Next).run P w= .ok (.value v) w')\/(∃x w',(do pure (Next.value (<- s)):Sem Next).run P w= .halt x w'):=by
  intro s;rw [cK];cases hs:s.run P w with
  | ok v w'=>exact .inl ⟨v,w',by simp [bX]⟩
  | halt x w'=>exact .inr ⟨x,w',by simp⟩
 obtain⟨dst,op,type,pos,after,guard⟩:=o;cases op <;>simp only [isVal,bM]at h <;>simp only [execOp]
 all_goals first
  | exact key _
  | exact .inl ⟨_,_,by rw [bX]⟩
  | skip
 case pick c a b=>
  rw [cK];cases hs:(asBool (ρ c)).run P w with
  | ok v w'=>exact .inl ⟨_,w',by simp only [cB];rw [bX]⟩
  | halt x w'=>exact .inr ⟨x,w',by simp⟩
 case nilCheck x=>
  have hp:∃x w',(runtimePanic .nilDeref:Sem Next).run P w= .halt x w':=⟨_,w,by simp [runtimePanic,goPanic,go_sem];rfl⟩;cases ρ x with
  | pointer a=>cases a <;>first | exact .inr hp | exact .inl ⟨_,_,by rw [bX]⟩
  | nilIface=>exact .inr hp
  | nilFunc=>exact .inr hp
  | func fn first captured=>
   cases fn with
   | method name=>
    dsimp only;split
    ·exact .inr hp
    ·rename_i t v _
     rw [cK];cases hs:(program:Sem Program).run P w with
     | ok p w1=>
      simp only [cB];rw [cK];cases hs:(nilAhead (p.types.size+Made.depth) t v name).run P w1 with
      | ok r w2=>
       simp only [cB];split
       ·rw [cK]
        exact .inr ⟨_,_,rfl⟩
       ·exact .inl ⟨_,_,by simp only [bX];rfl⟩
      | halt x w2=>exact .inr ⟨x,w2,by simp⟩
     | halt x w1=>exact .inr ⟨x,w1,by simp⟩
    ·exact .inl ⟨_,_,by rw [bX]⟩
   | _=>exact .inl ⟨_,_,by rw [bX]⟩
  | _=>exact .inl ⟨_,_,by rw [bX]⟩
 case call c=>
  obtain⟨callee,args,ats⟩:=c;cases callee with
  | builtin b=>
   cases b <;>simp only [bM]at h;simp only [resolve,cK,bX,cB,invoke,builtin];cases hs:(Builtin.len_ ats type (args.map ρ)).run P w with
   | ok v w'=>exact .inl ⟨v,w',by simp⟩
   | halt x w'=>exact .inr ⟨x,w',by simp⟩
  | value f=>simp only [bM]at h
  | invoke r m=>simp only [bM]at h
def LW:List Value ->Nat ->Value
 | [],_=>undef
 | x::_,0=>x
 | _::l,n+1=>LW l n
def slot (a:Act) (i:Nat):Value:=LW a.tmps.toList i
def fr (l:List Value):Act:={tmps:=l.toArray,defers:=[]}
def gs (a:Act):Nat ->Nat ->List Value ->List Value
 | _,0,l=>l
 | i,n+1,l=>slot a i::gs a (i+1) n l
def kI (ops:List Oper) (g:Option (Nat × Bool)) (a:Act):Bool:=
 match g with
 | none=>true
 | some (j,want)=>match nth ops j with
  | some o=>match o.dst with
   | some d=>match nth a.tmps.toList d with
    | some (.bool b)=>b==want
    | _=>false
   | none=>false
  | none=>false
theorem lD (ops:Array Oper) (o:Oper) (a:Act):Region.wanted o (yielded ops a.tmps)=kI ops.toList o.guard a:=by
 unfold Region.wanted kI;cases o.guard with
 | none=>rfl
 | some g=>
  obtain⟨j,want⟩:=g;simp only [yielded,n4,cd];cases ops[j]? with
  | none=>rfl
  | some o'=>
   simp only [ao];cases o'.dst with
   | none=>rfl
   | some d=>
    simp only [ao];cases a.tmps[d]? with
    | none=>rfl
    | some v=>cases v <;>rfl
def D6 (a':Act) (w':World) (e:Exit) (a:Act) (w:World):Prop:=e= .normal/\a=a'/\w=w'
def og (Q:Exit ->Act ->World ->Prop) (S:World ->Prop) (K:Act ->World ->Prop):Exit ->Act ->World ->Prop
 | .normal,a,w=>S w/\K a w
 | .panic _,_,_=>False
 | e,a,w=>Q e a w
def bare (o:Oper):Oper:={o with guard:=none,after:=#[]}
def gE (P:Program) (ops:List Oper) (Q:Exit ->Act ->World ->Prop) (S:World ->Prop):List (Nat × Bool) ->Act ->World ->Prop
 | [],a,w=>Q .normal a w
 | (i,true)::rest,a,w=>∃o,nth ops i=some o/\
   ((kI ops o.guard a=true/\∃d,o.dst=some d/\d < a.tmps.size/\∃a',(∀w',S w' ->wpList P #[] (D6 a' w') [bare o] a w')/\gE P ops Q S rest a' w)\/
    (kI ops o.guard a=false/\gE P ops Q S rest (a.put o.dst undef) w))
 | (i,false)::rest,a,w=>∃o,nth ops i=some o/\
   ((kI ops o.guard a=true/\wpList P #[] (og Q S (gE P ops Q S rest)) [bare o] a w)\/
    (kI ops o.guard a=false/\gE P ops Q S rest (a.put o.dst undef) w))
def tA (ops:Array Oper):List (Nat × Bool) ->Array Bool ->Bool
 | [],listed=>(Region.ready .any ops listed).isEmpty
 | (i,true)::rest,listed=>(ops[i]?.any fun o=>isVal o.op)&&(Region.ready .any ops listed).contains i&&Region.free .any ops listed i&&tA ops rest (listed.setIfInBounds i true)
 | (i,false)::rest,listed=>(Region.ready .any ops listed==[i])&&tA ops rest (listed.setIfInBounds i true)
theorem iL (ρ:Operand ->Value) (o:Oper):execOp ρ (bare o)=execOp ρ o:=rfl
theorem mf {P:Program} {Q:Exit ->Act ->World ->Prop} {o:Oper} {a:Act} {w:World} (h:wpList P #[] Q [bare o] a w):
  (bare o).wp P a w (Q .normal) Q\/((bare o).asks P a w/\LetsOut Q):=by
 unfold wpList at h;rw [aE (by simp [Region.wanted,bare])]at h;exact h
theorem lX {P:Program} {ops:Array Oper} {Q:Exit ->Act ->World ->Prop} {S:World ->Prop} (hQ:∀c a w,¬ Q (.panic c) a w) (hs:Region.noSelect ops=true):
  ∀(l:List (Nat × Bool)) (fuel:Nat) (listed:Array Bool) (a:Act) (w:World),l.length <=fuel ->tA ops l listed=true ->S w ->
   gE P ops.toList Q S l a w ->wpAnyH P .any ops Q S fuel listed a w
 | [],fuel,listed,a,w,_,Nt,_,h=>by
  simp only [tA,List.isEmpty_iff]at Nt;exact wpAnyH_done Nt h fuel
 | (i,true)::rest,0,_,_,_,hl,_,_,_=>by simp at hl
 | (i,false)::rest,0,_,_,_,hl,_,_,_=>by simp at hl
 | (i,true)::rest,fuel+1,listed,a,w,hl,Nt,hS,h=>by
  simp only [tA,bj]at Nt;obtain⟨⟨⟨hv,hr⟩,hf⟩,NW⟩:=Nt;simp only [aD]at hl;obtain⟨o,ho,h⟩:=h;rw [n4,cd]at ho;rw [ho]at hv;simp only [dO]at hv;rcases h with⟨hg,d,hd,hds,a',hp,hk⟩ | ⟨hg,hk⟩
  ·refine wpAnyH_take (v:=a'.tmps.getD d undef) ho hs hf hr (fun c a w h=>(hQ _ _ _ h).elim) (.inl ⟨by rw [lD];exact hg,fun w' hw'=>?_⟩) hS ?_
   ·rcases mf (hp w' hw')with h1 | ⟨_,h2⟩
    ·unfold Oper.wp at h1
     rw [iL]at h1;rcases lU (P:=P) (ρ:=a.eval) hv w' with⟨v,w2,Nz⟩ | ⟨x,w2,Nz⟩
     ·rw [Nz]at h1⊢
      obtain⟨_,h3,h4⟩:=h1;subst h4;subst h3;have:(bare o).dst=some d:=hd;rw [this];simp [Act.put,hds]
     ·rw [Nz]at h1
      cases x <;>simp only [Oper.upon]at h1
      case panic=>exact absurd h1.1 (by simp)
    ·obtain⟨_,_,h3,_⟩:=h2
     exact absurd h3 (by simp)
   ·have ha:a.put o.dst (a'.tmps.getD d undef)=a':=by
     rcases mf (hp w hS)with h1 | ⟨_,h2⟩
     ·unfold Oper.wp at h1
      rw [iL]at h1;rcases lU (P:=P) (ρ:=a.eval) hv w with⟨v,w2,Nz⟩ | ⟨x,w2,Nz⟩
      ·rw [Nz]at h1
       obtain⟨_,h3,h4⟩:=h1;have hd':(bare o).dst=some d:=hd;rw [<- h3,hd',hd];simp [Act.put,hds]
      ·rw [Nz]at h1
       cases x <;>simp only [Oper.upon]at h1
       case panic=>exact absurd h1.1 (by simp)
     ·obtain⟨_,_,h3,_⟩:=h2
      exact absurd h3 (by simp)
    rw [ha];exact lX hQ hs rest fuel _ _ _ (by omega) NW hS hk
  ·refine wpAnyH_take (v:=undef) ho hs hf hr (fun c a w h=>(hQ _ _ _ h).elim) (.inr ⟨by rw [lD];exact hg,rfl⟩) hS ?_
   exact lX hQ hs rest fuel _ _ _ (by omega) NW hS hk
 | (i,false)::rest,fuel+1,listed,a,w,hl,Nt,hS,h=>by
  simp only [tA,bj,dv]at Nt;obtain⟨hr,NW⟩:=Nt;simp only [aD]at hl;obtain⟨o,ho,h⟩:=h;rw [n4,cd]at ho;refine wpAnyH_all hr (by simp) fun j hj=>?_;obtain rfl:j=i:=by simpa using hj
  unfold wpOp;simp only [ho];rw [lD];rcases h with⟨hg,hw⟩ | ⟨hg,hk⟩
  ·rw [aE hg]
   have Oz:∀a' w',og Q S (gE P ops.toList Q S rest) .normal a' w' ->S w'/\wpAnyH P .any ops Q S fuel (listed.setIfInBounds j true) a' w':=
    fun a' w' h=>⟨h.1,lX hQ hs rest fuel _ _ _ (by omega) NW h.1 h.2⟩
   have Qw:LetsOut (og Q S (gE P ops.toList Q S rest)) ->LetsOut Q:=fun⟨a,w,h⟩=>⟨a,w,h⟩;rcases mf hw with h1 | ⟨h1,h2⟩
   ·left
    unfold Oper.wp at h1⊢;rw [iL]at h1;generalize(execOp a.eval o).run P w=r at*;cases r with
    | ok n w'=>
     cases n <;>simp only [Oper.upon]at h1⊢
     case value=>exact Oz _ _ h1
     case skip=>exact Oz _ _ h1
     case defer=>exact Oz _ _ h1
     case enter=>
      refine bZ h1 fun e w'' he=>?_;cases e with
      | returned v=>exact Oz _ _ he
      | panicked c=>exact he.elim
      | outgrown=>exact Qw he
     case row=>exact Rows.mono h1 fun v w'' he=>Oz _ _ he
    | halt x w'=>
     cases x <;>simp only [Oper.upon]at h1⊢
     case panic=>exact h1.elim
   ·exact .inr ⟨h1,Qw h2⟩
  ·rw [az (by rw [hg];simp)]
   exact⟨hS,lX hQ hs rest fuel _ _ _ (by omega) NW hS hk⟩
theorem eB {P:Program} {ops:List Oper} {Q:Exit ->Act ->World ->Prop} {id:Nat} {a:Act} {w:World} (S:World ->Prop) (l:List (Nat × Bool)) (hm:P.follows .mixedOrders=true)
  (Nt:(tA ops.toArray l (Array.replicate ops.length false)&&Region.noSelect ops.toArray&&decide (l.length <=ops.length))=true) (hS:S w.drew)
  (h:gE P ops (NoPanic Q) S l a w.drew):(Code.region id ops.toArray true).wp P Q a w:=by
 simp only [bj,cR]at Nt;obtain⟨⟨Nt,hn⟩,hl⟩:=Nt;refine dG (wp_region_held (S:=S) hm ?_);refine lX (S:=S) (fun c a w h=>h) hn l _ _ a _ ?_ ?_ hS ?_
 ·simpa using hl
 ·simpa using Nt
 ·simpa using h
section
variable {P:Program} {ops:List Oper} {Q:Exit ->Act ->World ->Prop} {S:World ->Prop} {i:Nat} {rest:List (Nat × Bool)} {a:Act} {w:World} {d:Tmp} {op:Op} {t:TypeId} {p:String} {af:Array Edge} {g:Option (Nat × Bool)}
theorem eR {c:Code} (J:Act ->World ->Prop) (μ:Act ->World ->Nat) (h0:J a w)
  (round:∀(R:Act ->World ->Prop) a w,J a w ->Hid (∀a' w',J a' w' ->μ a' w' < μ a w ->R a' w') ->c.wp P (Exit.then R Q) a w):(Code.loop c).wp P Q a w:=
 wp_loop J μ h0 fun a w hJ=>round _ a w hJ (fun _ _ h1 h2=>⟨h1,h2⟩)
theorem xM {c:Code} {K:Act ->World ->Prop} {id:Nat} (J:Act ->World ->Prop) (μ:Act ->World ->Nat) (X:Act ->World ->Prop) (h0:J a w)
  (round:∀(R Y:Act ->World ->Prop) a w,J a w ->Hid (∀a' w',J a' w' ->μ a' w' < μ a w ->R a' w') ->Hid (∀a w,X a w ->Y a w) ->c.wp P (Exit.then R (Exit.inBlock id (Exit.then Y Q))) a w)
  (hX:∀a w,X a w ->K a w):(Code.loop c).wp P (Exit.inBlock id (Exit.then K Q)) a w:=
 eR J μ h0 fun R a w hJ hR=>round R K a w hJ hR hX
theorem wp_cut {c:Code} (K:Act ->World ->Prop) (h1:c.wp P (fun e a w=>e= .normal/\K a w) a w) (h2:∀a w,K a w ->Q .normal a w):c.wp P Q a w:=
 Code.wp_mono (fun e a w h=>by rw [h.1];exact h2 a w h.2) h1
theorem eo (hi:nth ops i=some ⟨some d,op,t,p,af,g⟩) (hg:kI ops g a=true) (hd:Nat.ble (d+1) a.tmps.size=true) {a':Act} (hp:∀w',S w' ->wpList P #[] (D6 a' w') [⟨some d,op,t,p,#[],none⟩] a w')
  (h:gE P ops Q S rest a' w):gE P ops Q S ((i,true)::rest) a w:=
 ⟨_,hi, .inl ⟨hg,d,rfl,Nat.le_of_ble_eq_true hd,a',hp,h⟩⟩
theorem Hn {b:Bool} {dst:Option Tmp} (hi:nth ops i=some ⟨dst,op,t,p,af,g⟩) (hg:kI ops g a=false) (h:gE P ops Q S rest (a.put dst undef) w):gE P ops Q S ((i,b)::rest) a w:=by
 cases b
 ·exact⟨_,hi, .inr ⟨hg,h⟩⟩
 ·exact⟨_,hi, .inr ⟨hg,h⟩⟩
theorem ew {dst:Option Tmp} (hi:nth ops i=some ⟨dst,op,t,p,af,g⟩) (hg:kI ops g a=true) (h:wpList P #[] (og Q S (gE P ops Q S rest)) [⟨dst,op,t,p,#[],none⟩] a w):gE P ops Q S ((i,false)::rest) a w:=
 ⟨_,hi, .inl ⟨hg,h⟩⟩
def up:Nat ->Nat ->List (Nat × Bool) ->List (Nat × Bool)
 | _,0,l=>l
 | i,n+1,l=>(i,true)::up (i+1) n l
theorem eW (h:Q .normal a w):gE P ops Q S [] a w:=h
def pt:List Value ->Option Tmp ->List Value
 | l,none=>l
 | [],_=>[]
 | _::l,some 0=>undef::l
 | x::l,some (n+1)=>x::pt l (some n)
theorem Ld (l:List Value) (n:Nat):pt l (some n)=l.set n undef:=by
 induction l generalizing n with
 | nil=>cases n <;>rfl
 | cons x l ih=>cases n with
  | zero=>rfl
  | succ n=>simp [pt,ih]
theorem Lz (l:List Value) (d:Option Tmp):Act.put {tmps:=l.toArray,defers:=[]} d undef={tmps:=(pt l d).toArray,defers:=[]}:=by
 cases d with
 | none=>cases l <;>rfl
 | some n=>rw [Ld];simp [Act.put]
theorem sk {b:Bool} {dst:Option Tmp} {l:List Value} (hi:nth ops i=some ⟨dst,op,t,p,af,g⟩) (hg:kI ops g {tmps:=l.toArray,defers:=[]}=false) (h:gE P ops Q S rest {tmps:=(pt l dst).toArray,defers:=[]} w):gE P ops Q S ((i,b)::rest) {tmps:=l.toArray,defers:=[]} w:=
 Hn hi hg (by rw [Lz];exact h)
end
end
end Go.Proofs.YtjmeglibedbljaaGreatDoor
