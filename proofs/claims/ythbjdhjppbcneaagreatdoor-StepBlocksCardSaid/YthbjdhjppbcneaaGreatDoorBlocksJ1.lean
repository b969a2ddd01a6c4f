import Derived.Test.YthbjdhjppbcneaaGreatDoorProg
import Derived.WalkKit
import Derived.WalkSpells
import Derived.WalkLawsBesides
import Derived.OwnWalk
import Derived.Outline
import Derived.ScopeJumps
import Derived.Lib.Hide
import Derived.Below
import Derived.Deep.RegionWith
import Derived.Deep.QuietTactic
import Derived.BigQuiet
import Derived.OrdersHeld
import Derived.Deep.RegionHeld3
namespace Go.Proofs.YthbjdhjppbcneaaGreatDoor
set_option maxRecDepth 100000
set_option maxHeartbeats 20000000
open Go.RowKit Tryz
open Lib renaming hid->V
set_option linter.all false
def ag:=@Nat.le_refl
def ah:=@List.length_append
def an:=@Go.RowKit.Below.refl
def aq:=@decide_eq_false
def aw:=@List.getElem?_eq_getElem
def az:=@Option.bind_some
def aA:=@decide_eq_true
def aB:=@List.length_singleton
def aC:=@if_neg
def aD:=@Go.NoPanic.normal
def aE:=@Go.World.size_alloc
def aF:=@List.length_cons
def aG:=@List.getElem?_cons_zero
def aH:=@List.eq_nil_of_length_eq_zero
def aI:=@List.getElem?_toArray
def aJ:=@if_pos
def aK:=@Nat.add_zero
def aL:=@List.length_nil
def aM:=@List.getElem?_eq_some_iff
def aN:=@Go.bodyPost_ret
def aO:=@List.mem_of_getElem?
def aP:=@List.append_assoc
def aQ:=@List.mem_singleton
def aR:=@List.take_add_one
def aS:=@List.length_take
def aT:=@Go.World.block_lt_of_cell?
def aU:=@List.getElem?_cons_succ
def aV:=@List.take_length
def aW:=@Nat.le_trans
def aX:=@Option.some.injEq
def aY:=@Nat.eq_zero_or_pos
def aZ:=@List.mem_append
def bg:=@Go.World.cell?_of_block
def bj:=@List.setIfInBounds_toArray
def bm:=@List.getElem?_append_left
def bo:=@List.length_replicate
def bp:=@List.getElem?_append_right
def bq:=@Nat.mul_one
def bu:=@List.length_drop
def bx:=@Go.run_underlying
def bz:=@Bool.and_eq_true
def bA:=@Nat.zero_le
def bB:=@List.mem_cons
def bC:=@Option.map_eq_some_iff
def bD:=@Nat.lt_or_ge
def bE:=@List.set_cons_succ
def bF:=@Option.map_some
def bG:=@List.map_cons
def bH:=@List.set_cons_zero
def bI:=@List.cons_append
def bJ:=@List.length_zip
def bK:=@Nat.lt_of_lt_of_le
def bL:=@List.nil_append
def bM:=@List.length_map
def bN:=@List.not_mem_nil
def bO:=@List.append_nil
def bP:=@Nat.zero_add
def bQ:=@Go.World.cell?_alloc_new
def bR:=@Go.Lib.run_eql_slice_nil
def bS:=@List.flatMap_cons
def bT:=@List.flatten_cons
def bU:=@Go.Calls.mono
def bV:=@List.not_any_eq_all_not
def bW:=@Int.pow_succ
def bX:=@Go.info_parts
def bY:=@List.map_append
def bZ:=@Go.run_loadVar_row
def cd:=@Nat.min_self
def cg:=@Go.Sem.run_pure
def cm:=@Array.getElem?_toList
def cn:=@List.take_append_drop
def cq:=@Array.getElem?_eq_some_iff
def ct:=@Bool.true_and
def cz:=@Nat.mul_le_mul_right
def cA:=@List.drop_eq_getElem_cons
def cB:=@Go.World.cell?_setCell_other
def cC:=@Go.Result.andThen_ok
def cD:=@Nat.min_eq_left
def cE:=@Bool.false_eq_true
def cF:=@List.mem_of_mem_take
def cG:=@List.pairwise_append
def cH:=@of_decide_eq_true
def cI:=@Int.toNat_natCast
def cJ:=@List.getElem?_zip_eq_some
def cK:=@Bool.decide_and
def cL:=@Go.Sem.run_bind
def cM:=@Go.RowKit.Below.heap_setCell
def cN:=@Option.getD_some
def cO:=@Go.rounds_succ
def cP:=@List.take_left
def cQ:=@Nat.pow_le_pow_right
def cR:=@List.length_dropLast
def cS:=@List.dropLast_concat_getLast
def cT:=@List.getElem?_map
def cU:=@Nat.add_mul
def cV:=@List.map_nil
def cW:=@List.take_of_length_le
def cX:=@congrArg
def cY:=@or_false
def cZ:=@List.getElem?_take
def c9:=@Go.wp_loop_rounds
def da:=@List.length_set
def db:=@decide_eq_true_eq
def dc:=@if_true
def dd:=@Go.frozen_of_row
def de:=@List.getLast?_cons_cons
def df:=@List.drop_left
def dg:=@decide_eq_decide
def dh:=@Nat.add_sub_cancel
def di:=@Option.isNone_some
def dj:=@Option.isNone_none
def dk:=@Nat.sub_self
def dm:=@List.mem_replicate
def dn:=@List.getElem?_eq_none
def dq:=@List.zip_append
def dr:=@Int.natCast_mul
def dt:=@Bool.not_eq_true'
def du:=@beq_iff_eq
def dv:=@List.mem_or_eq_of_mem_set
def dw:=@Go.heap_alloc_new
def dx:=@Nat.mul_le_mul
def dy:=@List.map_toArray
def dz:=@List.append_inj'
def dA:=@Nat.le_of_eq
def dB:=@Go.ByteArray.toList_eq
def dC:=@beq_eq_false_iff_ne
def dD:=@UInt8.toNat_inj
def dE:=@Bool.eq_iff_iff
def dF:=@List.take_left'
def dG:=@List.size_toArray
def dH:=@Go.wp_region_noPanic
def dI:=@List.any_eq_false
def dJ:=@Decidable.not_not
def dK:=@List.singleton_append
def dL:=@Go.mem_ready
def dM:=@Bool.or_eq_false_iff
def dN:=@Go.Region.noSelect_spec
def dO:=@List.dropLast_subset
def dP:=@Nat.le_succ
def dQ:=@Nat.mul_le_mul_left
def dR:=@List.getLast?_eq_getElem?
def dS:=@Option.map_none
def dT:=@and_congr_left'
def dU:=@Go.grownCap_le_maxLen
def dV:=@Go.wpList_plain
def dW:=@Go.wpOp_mono
def dX:=@Array.setIfInBounds_comm
def dY:=@Go.ready_mono
def dZ:=@Go.step_scope
section
def Stop (p:Prop):Prop:=p
theorem Stop.out {p:Prop} (h:Stop p):p:=h
def eH (v:Value) (k:Nat):Prop:=v.ownBlock=some k
structure ee (S:Nat ->Prop) (w w':World):Prop where
 os:w'.os=w.os
 tape:w'.tape=w.tape
 output:w'.output=w.output
 size:w.heap.size <=w'.heap.size
 block:∀k,k < w.heap.size ->¬ S k ->w'.heap[k]?=w.heap[k]?
theorem ee.refl (S:Nat ->Prop) (w:World):ee S w w:=⟨rfl,rfl,rfl,ag _,fun _ _ _=>rfl⟩
theorem ee.trans {S S':Nat ->Prop} {a b c:World} (h:ee S a b) (k:ee S' b c) (hs:∀i,S' i ->S i\/a.heap.size <=i):ee S a c:=
 ⟨k.os.trans h.os,k.tape.trans h.tape,k.output.trans h.output,aW h.size k.size,fun i hi hn=>
  (k.block i (bK hi h.size) (fun s=>(hs i s).elim hn (fun h=>by omega))).trans (h.block i hi hn)⟩
theorem ee.mono {S S':Nat ->Prop} {a b:World} (h:ee S a b) (hs:∀i,S i ->S' i):ee S' a b:=
 ⟨h.os,h.tape,h.output,h.size,fun i hi hn=>h.block i hi (fun s=>hn (hs i s))⟩
theorem ee.below {S:Nat ->Prop} {B:Nat} {a b:World} (h:ee S a b) (hB:B <=a.heap.size) (hs:∀i,S i ->B <=i):Below B a b:=
 ⟨h.os,h.tape,h.output,h.size,fun i hi=>h.block i (by omega) (fun s=>by have:=hs i s;omega)⟩
theorem ee.eh {S:Nat ->Prop} {a b:World} (h:Below a.heap.size a b):ee S a b:=
 ⟨h.os,h.tape,h.output,h.size,fun i hi _=>h.block i hi⟩
theorem ee.drew {S:Nat ->Prop} {a b:World} (h:ee S a b):ee S a b.drew:=⟨h.os,h.tape,h.output,h.size,h.block⟩
theorem ee.alloc {S:Nat ->Prop} {a b:World} (h:ee S a b) (o:Obj):ee S a (b.alloc o):=
 h.trans (ee.eh ((an _ _).alloc (ag _) o) (S:=fun _=>False)) (fun _ h=>h.elim)
theorem gd {B:Nat} {a b:World} (h:Below B a.drew b):Below B a b:=⟨h.os,h.tape,h.output,h.size,h.block⟩
theorem ee.Bn {S:Nat ->Prop} {a b:World} (h:ee S a.drew b):ee S a b:=⟨h.os,h.tape,h.output,h.size,h.block⟩
def eM (w:World) (v v':Value):Prop:=∀k,eH v' k ->eH v k\/w.heap.size <=k
theorem eM.refl (w:World) (v:Value):eM w v v:=fun _ h=> .inl h
theorem eM.trans {w w1:World} {a b c:Value} (h:eM w a b) (k:eM w1 b c) (hs:w.heap.size <=w1.heap.size):eM w a c:=
 fun i hi=>(k i hi).elim (h i) (fun h=> .inr (by omega))
theorem mR {w w':World} {S:Nat ->Prop} {base e size n:Nat} {v:Value} {xs:List Value} (h:w.ownsRow base e size v n xs) (hk:ee S w w') (hs:∀k,eH v k ->¬ S k):
  w'.ownsRow base e size v n xs:=by
 refine⟨h.1,?_⟩;rcases h.2 with hn | ⟨g,cap,cur,rfl,hb,hgg,rest⟩
 ·exact .inl hn
 ·refine .inr ⟨g,cap,cur,rfl,hb,?_,rest⟩
  rw [hk.block g (cq.1 hgg).1 (hs g rfl)];exact hgg
theorem eE {w:World} {base e size n:Nat} {v:Value} {xs:List Value} (h:w.ownsRow base e size v n xs) {k:Nat} (hk:eH v k):base <=k/\k < w.heap.size:=h.lt k hk
theorem mW {w:World} {base base' e size n:Nat} {v:Value} {xs:List Value} (h:w.ownsRow base e size v n xs) (hs:∀k,eH v k ->base' <=k):w.ownsRow base' e size v n xs:=by
 refine⟨h.1,?_⟩;rcases h.2 with hn | ⟨g,cap,cur,rfl,hb,rest⟩
 ·exact .inl hn
 ·exact .inr ⟨g,cap,cur,rfl,hs g rfl,rest⟩
section
variable {P:Program} (w:World)
theorem tj (base:Nat) (t ty e:TypeId) (i:TypeInfo) (z:Value) (size bytes:Nat) (ht:P.underlying t=some (.slice e)) (hi:P.info? e=some i) (hz:i.zero=some z)
  (Qu:i.size=size) (N7:i.bytes=bytes) (hzs:z.cells.size=size) (Mr:0 < size)
  (v:Value) (n:Nat) (xs:List Value) (Lo:w.ownsRow base e size v n xs)
  (a:Addr) (m c:Nat) (news:List Value) (hl:news.length=m*size) (Pj:∀j u,news[j]?=some u ->w.cell? (a.add j)=some u) (h1:∀u∈news,u.oneCell'=true)
  (PC:n+m <=maxLen) (OT:(n+m)*bytes <=140737488355328) (LY:base <=w.heap.size):
  ∃v' w',(Builtin.append_ #[t,t] ty #[v, .slice (some a) m c]).run P w= .ok v' w'/\w'.ownsRow base e size v' (n+m) (xs++news)/\ee (eH v) w w'/\eM w v v':=by
 subst Qu;subst N7;have hsmall:n+m <=9223372036854775807:=by simp only [maxLen]at PC;omega
 have hlen:(xs++news).length=(n+m)*i.size:=by rw [ah,Lo.1,hl,cU]
 have grown:∀(old:Nat),old < n+m ->
   (w.drew.alloc (.cells (xs.toArray++news.toArray++Builtin.zeroCells z.cells (grownCap w (n+m) old e - (n+m))) e)).ownsRow base e i.size
    (.slice (some ⟨w.heap.size,0,none⟩) (n+m) (grownCap w (n+m) old e)) (n+m) (xs++news)/\
   ee (eH v) w (w.drew.alloc (.cells (xs.toArray++news.toArray++Builtin.zeroCells z.cells (grownCap w (n+m) old e - (n+m))) e))/\
   eM w v (.slice (some ⟨w.heap.size,0,none⟩) (n+m) (grownCap w (n+m) old e)):=by
  intro old ho;have hge:=grownCap_ge w (n+m) old e;have NC:grownCap w (n+m) old e <=maxLen:=dU w (n+m) old e PC;refine⟨⟨hlen, .inr ⟨w.heap.size,_,_,rfl,LY,dw w.drew _,hge,NC,?_,?_⟩⟩,(ee.refl _ _).drew.alloc _,fun k hk=> .inr ?_⟩
  ·simp only [Array.size_append,dG,size_zeroCells,hzs,Lo.1,hl, <- cU]
   congr 1
   omega
  ·simp only [Array.toList_append,aP]
   rw [<- aP, <- hlen];exact cP
  ·simp [eH,Value.ownBlock]at hk
   omega
 rcases Lo.2 with⟨rfl,rfl⟩ | ⟨g,cap,cur,rfl,hbg,hg,hnc,NC,RG,RH⟩
 ·have hx:xs=[]:=aH (by simpa using Lo.1)
  subst hx;by_cases hm:m=0
  ·subst hm
   have hn:news=[]:=aH (by simpa using hl);subst hn;refine⟨.slice none 0 0,w,?_,World.ownsRow_nil w base e i.size,ee.refl _ _,eM.refl _ _⟩;simp [Builtin.append_,bx ht,sizeOf,typeInfo,hi,Builtin.lenOf,Builtin.firstCells,loadCells,loadCellsFrom]
  ·have hr:=run_append_nil (P:=P) w t ty e i z ht hi hz a m c news hl Pj (by omega) (by omega) (by have hb:=OT;simp only [bP]at hb;omega)
   have PY:=grown 0 (by omega);simp only [bP,bL,Array.empty_append]at PY⊢;exact⟨_,_,hr,PY.1,PY.2.1,PY.2.2⟩
 ·by_cases Pk:n+m <=cap
  ·have hfit:n*i.size+news.length <=cur.size:=by rw [hl,RG, <- cU];exact cz _ Pk
   have hr:=run_append_room (P:=P) w t ty e i ht hi g n cap cur hg a m c news hl Pj h1 Pk hfit;refine⟨_,_,hr,⟨hlen, .inr ⟨g,cap,_,rfl,hbg,setRow_heap w g cur _ e _ hg,Pk,NC,?_,?_⟩⟩,⟨rfl,rfl,rfl,by simp,fun k _ hk=>setRow_other w g k _ (fun e=>hk (by simp [eH,Value.ownBlock,e]))⟩,fun k hk=> .inl hk⟩
   ·simp only [dG,ah,aS,bu,Array.length_toList]
    omega
   ·rw [RH, <- hlen]
    exact cP
  ·have holds:∀j u,xs[j]?=some u ->w.cell? ((⟨g,0,none⟩:Addr).add j)=some u:=Lo.cells (g:=g) rfl
   have hr:=run_append_grow (P:=P) w t ty e i z ht hi hz ⟨g,0,none⟩ n cap xs Lo.1 holds a m c news hl Pj (by omega) (by omega) (growslice_fits (by omega) OT);have PY:=grown cap (by omega);exact⟨_,_,hr,PY.1,PY.2.1,PY.2.2⟩
theorem qR {ops:Array Oper} {rest:List Oper} {o:Oper} {a:Act} {Q:Exit ->Act ->World ->Prop} (O9:o.guard=none) (s x:Operand) (t:TypeId)
  (ho:o.op= .call {callee:= .builtin .append,args:=#[s,x],argTypes:=#[t,t]})
  (base:Nat) (e:TypeId) (i:TypeInfo) (z:Value) (size bytes:Nat) (ht:P.underlying t=some (.slice e)) (hi:P.info? e=some i) (hz:i.zero=some z)
  (Qu:i.size=size) (N7:i.bytes=bytes) (hzs:z.cells.size=size) (Mr:0 < size)
  (v:Value) (n:Nat) (xs:List Value) (hs:a.eval s=v) (Lo:w.ownsRow base e size v n xs)
  (ad:Addr) (m c:Nat) (news:List Value) (hx:a.eval x= .slice (some ad) m c) (hl:news.length=m*size) (Pj:∀j u,news[j]?=some u ->w.cell? (ad.add j)=some u) (h1:∀u∈news,u.oneCell'=true)
  (PC:n+m <=maxLen) (OT:(n+m)*bytes <=140737488355328) (LY:base <=w.heap.size)
  (h:∀v' w',w'.ownsRow base e size v' (n+m) (xs++news) ->ee (eH v) w w' ->eM w v v' ->wpList P ops Q rest (a.put o.dst v') w'):wpList P ops Q (o::rest) a w:=
 dV O9 fun _ hK=>by
  obtain⟨v',w',hr,h2,h3,h4⟩:=tj (P:=P) w base t o.type e i z size bytes ht hi hz Qu N7 hzs Mr v n xs Lo ad m c news hl Pj h1 PC OT LY;unfold Oper.wp execOp;simp only [ho,resolve,invoke,builtin,cL,cg,cC,dy,bG,cV,hs,hx,hr];exact hK _ _ (h v' w' h2 h3 h4)
theorem sJ {ops:Array Oper} {rest:List Oper} {o:Oper} {a:Act} {Q:Exit ->Act ->World ->Prop} (O9:o.guard=none) (s x:Operand) (t:TypeId)
  (ho:o.op= .call {callee:= .builtin .append,args:=#[s,x],argTypes:=#[t,t]})
  (base:Nat) (e:TypeId) (i:TypeInfo) (z:Value) (size bytes:Nat) (ht:P.underlying t=some (.slice e)) (hi:P.info? e=some i) (hz:i.zero=some z)
  (Qu:i.size=size) (N7:i.bytes=bytes) (hzs:z.cells.size=size) (Mr:0 < size)
  (v:Value) (n:Nat) (xs:List Value) (hs:a.eval s=v) (Lo:w.ownsRow base e size v n xs)
  (news:List Value) (hx:a.eval x= .slice (some ⟨w.heap.size,0,none⟩) 1 1) (hl:news.length=size) (h1:∀u∈news,u.oneCell'=true)
  (PC:n+1 <=maxLen) (OT:(n+1)*bytes <=140737488355328) (LY:base <=w.heap.size)
  (h:∀v' w',w'.ownsRow base e size v' (n+1) (xs++news) ->ee (eH v) w w' ->eM w v v' ->wpList P ops Q rest (a.put o.dst v') w'):wpList P ops Q (o::rest) a (w.alloc (.cells news.toArray e)):=by
 have hk:ee (eH v) w (w.alloc (.cells news.toArray e)):=(ee.refl _ _).alloc _;refine qR (P:=P) (w.alloc (.cells news.toArray e)) O9 s x t ho base e i z size bytes ht hi hz Qu N7 hzs Mr v n xs hs (Lo.alloc _) ⟨w.heap.size,0,none⟩ 1 1 news hx (by omega) ?_ h1 PC OT (by simp;omega) ?_
 ·intro j u hu
  have Pl:(⟨w.heap.size,0,none⟩:Addr).add j=⟨w.heap.size,j,none⟩:=by unfold Addr.add;split <;>simp_all
  rw [Pl,bQ];simpa using hu
 ·intro v' w' h2 h3 h4
  refine h v' w' h2 (hk.trans h3 (fun i hi=> .inl hi)) (fun k hk'=>(h4 k hk').imp id (fun h=>?_));have:w.heap.size <=(w.alloc (.cells news.toArray e)).heap.size:=by simp
  omega
end
abbrev bv (x:UInt8):Value:= .int .u8 (x.toNat:Int)
theorem B9 (l:List UInt8):∀u∈l.map bv,u.oneCell'=true:=by
 intro u hu;obtain⟨x,_,rfl⟩:=List.mem_map.1 hu;rfl
theorem oW:(prog.info? 5).map (fun i=>(i.zero,i.size,i.bytes))=some (some (.int .u8 0),1,1):=by kernel_rfl
def eg (w:World) (B:Nat) (v:Value) (l:List UInt8):Prop:=w.ownsRow B 5 1 v l.length (l.map bv)
theorem eg.nil (w:World) (B:Nat):eg w B (.slice none 0 0) []:=World.ownsRow_nil w B _ _
theorem eg.keeps {w w':World} {S:Nat ->Prop} {B:Nat} {v:Value} {l:List UInt8} (h:eg w B v l) (hk:ee S w w') (hs:∀k,eH v k ->¬ S k):eg w' B v l:=mR h hk hs
theorem eg.below {w w':World} {B:Nat} {v:Value} {l:List UInt8} (h:eg w B v l) (hk:Below w.heap.size w w'):eg w' B v l:=
 mR h (ee.eh (S:=fun _=>False) hk) (fun _ _ h=>h)
theorem fi {P:Program} (w:World) {ops:Array Oper} {rest:List Oper} {o:Oper} {a:Act} {Q:Exit ->Act ->World ->Prop} (O9:o.guard=none) (s x:Operand)
  (hP:P=prog) (ho:o.op= .call {callee:= .builtin .append,args:=#[s,x],argTypes:=#[97,97]})
  (B:Nat) (v:Value) (l:List UInt8) (hs:a.eval s=v) (Lo:eg w B v l)
  (y:UInt8) (m:Int) (hm:m=y.toNat) (hx:a.eval x= .slice (some ⟨w.heap.size,0,none⟩) 1 1)
  (PC:l.length <=140737488355327) (LY:B <=w.heap.size)
  (h:∀v' w',eg w' B v' (l++[y]) ->ee (eH v) w w' ->eM w v v' ->wpList P ops Q rest (a.put o.dst v') w'):wpList P ops Q (o::rest) a (w.alloc (.cells #[.int .u8 m] 5)):=by
 subst hP;subst hm;obtain⟨i0,hi,NW,MP,Nu⟩:=bX oW;refine sJ (P:=prog) w O9 s x 97 ho B 5 i0 (.int .u8 0) 1 1 (by kernel_rfl) hi NW MP Nu rfl (by decide) v l.length (l.map bv) hs Lo [bv y] hx rfl (B9 [y]) (by simp only [maxLen];omega) (by omega) LY ?_;intro v' w' h2 h3 h4;refine h v' w' ?_ h3 h4;simpa [eg] using h2
theorem ku {P:Program} {a:Act} {w:World} {Q:Exit ->Act ->World ->Prop} {c rest:Code} (l:Nat) (J:Act ->World ->Prop) (μ:Act ->World ->Nat) (hf:findLabel c l=some (.seq .skip rest))
  (pass:∀a w,J a w ->rest.wp P (Exit.jump l (fun a' w'=>J a' w'/\μ a' w' < μ a w) Q) a w)
  (first:(∀a w,J a w ->rest.wp P (Exit.jump l J Q) a w) ->c.wp P (Exit.jump l J Q) a w):(Code.scope c).wp P Q a w:=by
 refine wp_scope_jumps l J μ hf (first fun a w hJ=>Code.wp_mono ?_ (pass a w hJ)) fun a w hJ=>wp_seq (wp_skip ?_)
 ·intro e a' w' h
  cases e <;>first | exact h | exact⟨h.1,h.2.1⟩
 ·exact pass a w hJ
theorem lV {l:Nat} {J:Act ->World ->Prop} {μ:Act ->World ->Nat} {Q:Exit ->Act ->World ->Prop} {a:Act} {w:World} {m:Nat} (h:J a w) (hm:μ a w < m):Exit.jump l (fun a' w'=>J a' w'/\μ a' w' < m) Q (.goto l) a w:=⟨rfl,h,hm⟩
theorem iV (l:Nat) (J:Act ->World ->Prop) (Q:Exit ->Act ->World ->Prop) (a:Act) (w:World):Exit.jump l J Q .ret a w=Q .ret a w:=rfl
def eW (w:World) (v:Value) (l:List UInt8):Prop:=
 ∃a cap,v= .slice a l.length cap/\l.length <=cap/\cap <=maxLen/\∀i x,l[i]?=some x ->∃b off,a=some ⟨b,off,none⟩/\w.cell? ⟨b,off+i,none⟩=some (bv x)
theorem eW.nil (w:World):eW w (.slice none 0 0) []:=⟨none,0,rfl,ag _,by simp [maxLen],by simp⟩
theorem eW.below {w w':World} {v:Value} {l:List UInt8} (h:eW w v l) (hb:Below w.heap.size w w'):eW w' v l:=by
 obtain⟨a,cap,hv,h1,h2,h3⟩:=h;refine⟨a,cap,hv,h1,h2,fun i x hx=>?_⟩;obtain⟨b,off,ha,hc⟩:=h3 i x hx;exact⟨b,off,ha,by rw [hb.cell (aT w _ hc)];exact hc⟩
theorem eg.fF {w:World} {B:Nat} {v:Value} {l:List UInt8} (h:eg w B v l):eW w v l:=by
 obtain⟨hl,hv | ⟨g,cap,cur,hv,hb,hg,hn,hm,hs,ht⟩⟩:=h
 ·obtain⟨rfl,h0⟩:=hv
  obtain rfl:l=[]:=aH h0;exact eW.nil w
 ·refine⟨_,cap,hv,hn,hm,fun i x hx=>⟨g,0,rfl,?_⟩⟩
  rw [cell_of_row w g _ cur _ _ hg,bP];have h1:(l.map bv)[i]?=some (bv x):=by simp [hx]
  rw [<- ht,cZ]at h1;split at h1
  ·simpa using h1
  ·cases h1
theorem eW.take {w:World} {a:Option Addr} {n cap:Nat} {l:List UInt8} (h:eW w (.slice a n cap) l) (k:Nat) (hk:k <=l.length):eW w (.slice a k cap) (l.take k):=by
 obtain⟨a',LO,hv,h1,h2,h3⟩:=h;injection hv with e1 e2 e3;subst e1 e2 e3;refine⟨a,cap,?_,?_,h2,fun i x hx=>?_⟩
 ·rw [aS,cD hk]
 ·rw [aS];omega
 ·rw [cZ]at hx
  split at hx
  ·exact h3 i x hx
  ·cases hx
def bs (l:List UInt8):ByteArray:=⟨l.toArray⟩
theorem foldl_push:∀(l:List UInt8) (s:ByteArray),((l.map fun x=>(x.toNat:Int)).foldl (fun r n=>r.push (UInt8.ofNat n.toNat)) s)=⟨s.data++l.toArray⟩
 | [],s=>by simp
 | x::l,s=>by
  simp only [bG,List.foldl_cons];rw [foldl_push l];simp [ByteArray.push]
theorem qa {w:World} {v:Value} {l:List UInt8} (h:eW w v l):(convert 97 9 v).run prog w= .ok (.string (bs l)) w:=by
 obtain⟨a,cap,rfl,h1,h2,h3⟩:=h;rw [run_convert_bytes_string w 97 9 5 a l.length cap (by kernel_rfl) (by kernel_rfl) (by kernel_rfl)];cases l with
 | nil=>
  cases a with
  | none=>rfl
  | some a=>rfl
 | cons x l=>
  obtain⟨b,off,rfl,_⟩:=h3 0 x rfl;have hl:=run_loadCells_list (P:=prog) w ⟨b,off,none⟩ ((x::l).map bv) (fun j u hu=>by
   rw [cT]at hu;cases hj:(x::l)[j]? with
   | none=>rw [hj]at hu;cases hu
   | some y=>
    rw [hj]at hu;simp at hu;subst hu;obtain⟨b',off',he,hc⟩:=h3 j y hj;injection he with he;injection he with e1 e2;subst e1 e2;have Pl:(⟨b,off,none⟩:Addr).add j=⟨b,off+j,none⟩:=by
     unfold Addr.add;split <;>simp_all
    rw [Pl];exact hc)
  rw [bM]at hl;rw [run_bytesToString w ⟨b,off,none⟩ (x::l).length cap ((x::l).map fun x=>(x.toNat:Int)) (by rw [hl];simp [List.map_map])];rw [foldl_push];have he:ByteArray.empty.data=#[]:=rfl;rw [he];simp [bs]
theorem lR (l:List UInt8):(bs l).toList=l:=by
 rw [dB];rfl
theorem eQ {a b:Int} (h:a=b):(a==b)=true:=by simp [h]
theorem ed {a b:Int} (h:a≠b):(a==b)=false:=by simp [h]
theorem fw {a b:Int} (h:a≠b):(a !=b)=true:=bne_iff_ne.2 h
theorem jI {a b:Int} (h:a=b):(a !=b)=false:=by rw [h];exact bne_self_eq_false b
theorem J4:∀x:Fin 256,x.val ||| 128=x.val %128+128:=by decide+kernel
theorem uB (n:Nat) (h:n < 256):bits .or .u8 (n:Int) 128=((n %128+128:Nat):Int):=by
 have h0:=u8_or_nat n 128 h (by omega);rw [J4 ⟨n,h⟩]at h0;exact h0
def b8 (n:Nat):UInt8:=UInt8.ofNat n
theorem fY {n:Nat} (h:n < 256):(b8 n).toNat=n:=by simpa [b8] using Nat.mod_eq_of_lt h
end
def jV:Nat ->Nat ->List UInt8
 | 0,_=>[]
 | f+1,n=>if n < 128 then [b8 n]else b8 (n %128+128)::jV f (n/128)
def eY (n:Nat):List UInt8:=jV 10 n
def KC (xs:List UInt8) (u:Nat) (B:Nat) (b:Value) (w w':World) (v:Value) (n:Nat):Prop:=
 ∃(ys:List UInt8) (k f:Nat),eg w' B v ys/\ee (eH b) w w'/\eM w b v/\ys.length <=xs.length+k/\k+f=9/\n < 2*128^f/\ys++jV (f+1) n=xs++jV 10 u
def II (xs:List UInt8) (u:Nat) (B:Nat) (b:Value) (w:World) (e:Ending) (w':World):Prop:=
 ∃v,e= .returned v/\eg w' B v (xs++eY u)/\ee (eH b) w w'/\eM w b v
theorem Jy (n:Nat):bits .or .u8 ((n:Int) %256) 128=((b8 (n %128+128)).toNat:Int):=by
 have h:=uB (n %256) (by omega);rw [show n %256 %128=n %128 from by omega]at h;rw [fY (by omega), <- h];rfl
theorem jk (b:Value) (xs:List UInt8) (u:Nat) (h1:u < 18446744073709551616) (B:Nat) (w:World) (Lo:eg w B b xs) (hn:xs.length <=1000000000) (hB:B <=w.heap.size):
  Calls prog 235 #[b, .int .u64 u] w (II xs u B b w):=by
 go_enter func235,ntmps235;go_wp2;refine ku 0 (fun a' w'=>∃(v:Value) (n:Nat) (u5 u6 u7 u8 u9 u10 RI QW RJ RK RL u16 RM RN RO:Value),a'={tmps:=#[v, .int .u64 n,undef,undef, .slice none 0 0,u5,u6,u7,u8,u9,u10,RI,QW,RJ,RK,RL,u16,RM,RN,RO],defers:=[]}/\KC xs u B b w w' v n) (fun a' _=>(intOf (a'.tmps.getD 1 undef)).toNat) rfl ?_ ?_
 ·rintro a' w1 ⟨v,n,u5,u6,u7,u8,u9,u10,RI,QW,RJ,RK,RL,u16,RM,RN,RO,rfl,hJ⟩
  obtain⟨ys,k,f,O1,hk,hs,hlen,hkf,hnf,heq⟩:=hJ;have HE:=V heq;have HK:=V hkf;have hk9:k <=9:=by omega
  clear heq hkf Lo;have Mr:=hk.size;by_cases Lw:n < 128
  ·go_wp2_with (first | (at_builtin;refine fi w1 rfl _ _ rfl rfl B v ys rfl O1 (b8 n) _ ?_ rfl ?_ ?_ ?_))
   ·rw [fY (by omega)]
   ·omega
   ·omega
   ·intro v' w2 LL Lv LB
    go_wp2;rw [iV];go_ret;refine⟨v',rfl,?_,hk.trans Lv ?_,hs.trans LB Mr⟩
    ·have h:=HE.out
     rw [jV,aJ Lw]at h;rw [eY, <- h];exact LL
    ·exact fun i hi=>hs i hi
  ·go_wp2_with (first | (at_builtin;refine fi w1 rfl _ _ rfl rfl B v ys rfl O1 (b8 (n %128+128)) _ (Jy n) rfl ?_ ?_ ?_))
   ·omega
   ·omega
   ·intro v' w2 LL Lv LB
    go_wp2
    go_step3
    have hf:f≠0:=by
     rintro rfl;omega
    obtain⟨f',rfl⟩:∃f',f=f'+1:=⟨f - 1,by omega⟩;have hnq:((n:Int)/128)=((n/128:Nat):Int):=by omega
    rw [hnq];refine lV ⟨v',n/128,_,_,_,_,_,_,_,_,_,_,_,_,_,_,_,rfl,ys++[b8 (n %128+128)],k+1,f',LL,hk.trans Lv (fun i hi=>hs i hi),hs.trans LB Mr,?_,?_,?_,?_⟩ ?_
    ·simp
     omega
    ·have:=HK.out
     omega
    ·rw [Nat.pow_succ]at hnf
     omega
    ·have h:=HE.out
     rw [jV,aC Lw]at h;rw [<- h];simp
    ·simp [intOf]
     omega
 ·intro H
  apply wp_seq_k;intro K hK;apply wp_label;apply hK;exact H _ _ ⟨b,u,_,_,_,_,_,_,_,_,_,_,_,_,_,_,_,rfl,xs,0,9,Lo,ee.refl _ _,eM.refl _ _,by omega,rfl,by omega,rfl⟩
def cont:List UInt8 ->Nat
 | []=>0
 | x::l=>if 128 <=x.toNat then cont l+1 else 0
theorem ym:∀l:List UInt8,cont l <=l.length
 | []=>ag _
 | x::l=>by
  have:=ym l;simp only [cont,aF];split <;>omega
theorem Ck:∀(l:List UInt8) (i:Nat) (x:UInt8),l[i]?=some x ->i < cont l ->128 <=x.toNat
 | [],i,x,h,_=>by simp at h
 | y::l,0,x,h,hi=>by
  simp at h;subst h;simp only [cont]at hi;split at hi
  ·assumption
  ·omega
 | y::l,i+1,x,h,hi=>by
  simp only [cont]at hi;split at hi
  ·exact Ck l i x (by simpa using h) (by omega)
  ·omega
theorem Cx:∀(l:List UInt8) (x:UInt8),l[cont l]?=some x ->x.toNat < 128
 | [],x,h=>by simp at h
 | y::l,x,h=>by
  simp only [cont]at h;split at h
  ·exact Cx l x (by simpa using h)
  ·rename_i hy
   simp at h;subst h;omega
def fo (bits:Int) (l:List UInt8):Nat × Int:=
 if bits < 1\/64 < bits then(0,3)
 else if(bits+6)/7 <=cont l then(0,1)
 else if cont l=l.length then(0,2)
 else(cont l+1,0)
def Jw (bits:Int) (l:List UInt8) (w:World) (e:Ending) (w':World):Prop:=
 e= .returned (.tuple #[.int .i64 (fo bits l).1, .int .i64 (fo bits l).2])/\w=w'
def K8 (l:List UInt8) (fB:Nat) (w w':World) (n:Nat):Prop:=w'=w/\n <=fB/\n <=cont l
theorem nk (b:Value) (l:List UInt8) (bits:Int) (w:World) (hb:eW w b l) (LC: -9223372036854775808 <=bits) (Lr:bits <=9223372036854775807):
  Calls prog 268 #[b, .int .i64 bits] w (Jw bits l w):=by
 obtain⟨a,cap,rfl,hl,hm,hc⟩:=hb;unfold maxLen at hm;have HC:=V hc;clear hc;by_cases h1:bits < 1
 ·go_enter func268,ntmps268
  go_wp2
  go_step3
  go_wp2;rw [Exit.noGoto_ret]
  go_ret2
  exact⟨by rw [fo,aJ (.inl h1)];rfl,rfl⟩
 by_cases h2:64 < bits
 ·go_enter func268,ntmps268
  go_wp2
  go_step3
  go_wp2;rw [Exit.noGoto_ret]
  go_ret2
  exact⟨by rw [fo,aJ (.inr h2)];rfl,rfl⟩
 have PD:=ym l;obtain⟨q,hq⟩:∃q:Nat,(q:Int)=(bits+6)/7:=⟨((bits+6)/7).toNat,by omega⟩;have hq0:1 <=q:=by omega
 have hq1:q <=10:=by omega
 have HQ:=V hq;clear hq;go_enter func268,ntmps268;go_wp2;refine ku 0 (fun a' w'=>∃(n:Nat) (u8 u9 u10 RI QW RJ RK RL u16 RM RN RO u20 u21 u22 u23 u24 u25 u26 u27 u28 u29 u30 u31 u32 u33 u34 u35 u36:Value),a'={tmps:=#[.slice a l.length cap, .int .i64 bits,undef,undef, .int .i64 0, .int .i64 0, .int .i64 n, .int .i64 q,u8,u9,u10,RI,QW,RJ,RK,RL,u16,RM,RN,RO,u20,u21,u22,u23,u24,u25,u26,u27,u28,u29,u30,u31,u32,u33,u34,u35,u36],defers:=[]}/\K8 l q w w' n) (fun a' _=>(q - (intOf (a'.tmps.getD 6 undef)).toNat)) rfl ?_ ?_
 ·rintro a' w1 ⟨n,u8,u9,u10,RI,QW,RJ,RK,RL,u16,RM,RN,RO,u20,u21,u22,u23,u24,u25,u26,u27,u28,u29,u30,u31,u32,u33,u34,u35,u36,rfl,hJ⟩
  obtain⟨rfl,hn,hnc⟩:=hJ;by_cases e1:n=q
  ·subst e1
   go_wp2;rw [iV]
   go_ret2
   exact⟨by rw [fo,aC (by omega),aJ (by have:=HQ.out;omega)];rfl,rfl⟩
  have b1:=ed (a:=(n:Int)) (b:=(q:Int)) (by omega);by_cases e2:n=l.length
  ·subst e2
   go_wp2;rw [iV]
   go_ret2
   exact⟨by rw [fo,aC (by omega),aC (by have:=HQ.out;omega),aJ (by omega)];rfl,rfl⟩
  have b2:=ed (a:=(n:Int)) (b:=(l.length:Int)) (by omega);obtain⟨x,hx⟩:∃x,l[n]?=some x:=⟨_,aw (show n < l.length by omega)⟩;obtain⟨b,off,rfl,hc⟩:=HC.out n x hx;have hx8:=x.toNat_lt;have HX:=V hx;clear hx;have Lw:n < l.length:=by omega
  by_cases e3:128 <=x.toNat
  ·have hnc':n < cont l:=by
    rcases bD n (cont l)with h | h
    ·exact h
    ·obtain rfl:n=cont l:=by omega
     have:=Cx l x HX.out;omega
   go_wp2
   go_step3
   simp only [Exit.inBlock,Exit.then];refine lV ⟨n+1,_,_,_,_,_,_,_,_,_,_,_,_,_,_,_,_,_,_,_,_,_,_,_,_,_,_,_,_,_,rfl,rfl,by omega,by omega⟩ ?_;simp [intOf];omega
  ·have hnc':n=cont l:=by
    rcases bD n (cont l)with h | h
    ·have:=Ck l n x HX.out h
     omega
    ·omega
   have HN:=V hnc';clear hnc';go_wp2;rw [iV]
   go_ret2
   refine⟨?_,rfl⟩;have:=HN.out;have:=HQ.out;rw [fo,aC (by omega),aC (by omega),aC (by omega), <- HN.out]
   go_num
 ·intro H
  have Hh:=V H;clear H;go_wp2
  go_step3
  go_step
  go_step
  have e7:(bits+7 - 1)/7=(q:Int):=by have:=HQ.out;omega
  rw [e7];refine Hh.out _ _ ⟨0,_,_,_,_,_,_,_,_,_,_,_,_,_,_,_,_,_,_,_,_,_,_,_,_,_,_,_,_,_,rfl,rfl,by omega,by omega⟩
def IQ (l m:List UInt8) (w:World) (e:Ending) (w':World):Prop:=e= .returned (.bool (l==m))/\w=w'
theorem mf (a b:Value) (l m:List UInt8) (w:World) (ha:eW w a l) (hb:eW w b m):
  Calls prog 269 #[a,b] w (IQ l m w):=by
 have h1:=qa ha;have h2:=qa hb;clear ha hb;go_enter func269,ntmps269;go_wp2;go_ret;exact⟨by rw [lR,lR];rfl,rfl⟩
section
def nth {α:Type}:List α ->Nat ->Option α
 | [],_=>none
 | x::_,0=>some x
 | _::l,n+1=>nth l n
theorem nO {α:Type}:∀(l:List α) (n:Nat),nth l n=l[n]?
 | [],_=>by simp [nth]
 | x::l,0=>by simp [nth]
 | x::l,n+1=>by simp [nth,nO l n]
def isVal:Op ->Bool
 | .move _ | .assign _ | .pick .. | .binOp .. | .unOp .. | .convert .. | .slice .. | .fieldAddr .. | .field .. | .indexAddr .. | .index .. | .extract .. | .load .. | .makeInterface .. | .nilCheck _ | .build .. =>true
 | .call {callee:= .builtin .len, .. }=>true
 | _=>false
theorem lU {P:Program} {ρ:Operand ->Value} {o:Oper} (h:isVal o.op=true) (w:World):
  (∃v w',(execOp ρ o).run P w= .ok (.value v) w')\/(∃x w',(execOp ρ o).run P w= .halt x w'):=by
 have key:∀s:Sem Value,(∃v w',(do pure (Next.value (<- s)):Sem Next).run P w= .ok (.value v) w')\/(∃x w',(do pure (Next.value (<- s)):Sem Next).run P w= .halt x w'):=by
  intro s;rw [cL];cases hs:s.run P w with
  | ok v w'=>exact .inl ⟨v,w',by simp [cg]⟩
  | halt x w'=>exact .inr ⟨x,w',by simp⟩
 obtain⟨dst,op,type,pos,after,guard⟩:=o;cases op <;>simp only [isVal,cE]at h <;>simp only [execOp]
 all_goals first
  | exact key _
  | exact .inl ⟨_,_,by rw [cg]⟩
  | skip
 case pick c a b=>
  rw [cL];cases hs:(asBool (ρ c)).run P w with
  | ok v w'=>exact .inl ⟨_,w',by simp only [cC];rw [cg]⟩
  | halt x w'=>exact .inr ⟨x,w',by simp⟩
 case nilCheck x=>
  have hp:∃x w',(runtimePanic .nilDeref:Sem Next).run P w= .halt x w':=⟨_,w,by simp [runtimePanic,goPanic,go_sem];rfl⟩;cases ρ x with
  | pointer a=>cases a <;>first | exact .inr hp | exact .inl ⟨_,_,by rw [cg]⟩
  | nilIface=>exact .inr hp
  | nilFunc=>exact .inr hp
  | func fn first captured=>
   cases fn with
   | method name=>
    dsimp only;split
    ·exact .inr hp
    ·rename_i t v _
     rw [cL];cases hs:(program:Sem Program).run P w with
     | ok p w1=>
      simp only [cC];rw [cL];cases hs:(nilAhead (p.types.size+Made.depth) t v name).run P w1 with
      | ok r w2=>
       simp only [cC];split
       ·rw [cL]
        exact .inr ⟨_,_,rfl⟩
       ·exact .inl ⟨_,_,by simp only [cg];rfl⟩
      | halt x w2=>exact .inr ⟨x,w2,by simp⟩
     | halt x w1=>exact .inr ⟨x,w1,by simp⟩
    ·exact .inl ⟨_,_,by rw [cg]⟩
   | _=>exact .inl ⟨_,_,by rw [cg]⟩
  | _=>exact .inl ⟨_,_,by rw [cg]⟩
 case call c=>
  obtain⟨callee,args,ats⟩:=c;cases callee with
  | builtin b=>
   cases b <;>simp only [cE]at h;simp only [resolve,cL,cg,cC,invoke,builtin];cases hs:(Builtin.len_ ats type (args.map ρ)).run P w with
   | ok v w'=>exact .inl ⟨v,w',by simp⟩
   | halt x w'=>exact .inr ⟨x,w',by simp⟩
  | value f=>simp only [cE]at h
  | invoke r m=>simp only [cE]at h
def Ke:List Value ->Nat ->Value
 | [],_=>undef
 | x::_,0=>x
 | _::l,n+1=>Ke l n
def slot (a:Act) (i:Nat):Value:=Ke a.tmps.toList i
def fr (l:List Value):Act:={tmps:=l.toArray,defers:=[]}
def gs (a:Act):Nat ->Nat ->List Value ->List Value
 | _,0,l=>l
 | i,n+1,l=>slot a i::gs a (i+1) n l
def ko (ops:List Oper) (g:Option (Nat × Bool)) (a:Act):Bool:=
 match g with
 | none=>true
 | some (j,want)=>match nth ops j with
  | some o=>match o.dst with
   | some d=>match nth a.tmps.toList d with
    | some (.bool b)=>b==want
    | _=>false
   | none=>false
  | none=>false
theorem kY (ops:Array Oper) (o:Oper) (a:Act):Region.wanted o (yielded ops a.tmps)=ko ops.toList o.guard a:=by
 unfold Region.wanted ko;cases o.guard with
 | none=>rfl
 | some g=>
  obtain⟨j,want⟩:=g;simp only [yielded,nO,cm];cases ops[j]? with
  | none=>rfl
  | some o'=>
   simp only [az];cases o'.dst with
   | none=>rfl
   | some d=>
    simp only [az];cases a.tmps[d]? with
    | none=>rfl
    | some v=>cases v <;>rfl
def Cv (a':Act) (w':World) (e:Exit) (a:Act) (w:World):Prop:=e= .normal/\a=a'/\w=w'
def nK (Q:Exit ->Act ->World ->Prop) (S:World ->Prop) (K:Act ->World ->Prop):Exit ->Act ->World ->Prop
 | .normal,a,w=>S w/\K a w
 | .panic _,_,_=>False
 | e,a,w=>Q e a w
def bare (o:Oper):Oper:={o with guard:=none,after:=#[]}
def gC (P:Program) (ops:List Oper) (Q:Exit ->Act ->World ->Prop) (S:World ->Prop):List (Nat × Bool) ->Act ->World ->Prop
 | [],a,w=>Q .normal a w
 | (i,true)::rest,a,w=>∃o,nth ops i=some o/\
   ((ko ops o.guard a=true/\∃d,o.dst=some d/\d < a.tmps.size/\∃a',(∀w',S w' ->wpList P #[] (Cv a' w') [bare o] a w')/\gC P ops Q S rest a' w)\/
    (ko ops o.guard a=false/\gC P ops Q S rest (a.put o.dst undef) w))
 | (i,false)::rest,a,w=>∃o,nth ops i=some o/\
   ((ko ops o.guard a=true/\wpList P #[] (nK Q S (gC P ops Q S rest)) [bare o] a w)\/
    (ko ops o.guard a=false/\gC P ops Q S rest (a.put o.dst undef) w))
def sS (ops:Array Oper):List (Nat × Bool) ->Array Bool ->Bool
 | [],listed=>(Region.ready .any ops listed).isEmpty
 | (i,true)::rest,listed=>(ops[i]?.any fun o=>isVal o.op)&&(Region.ready .any ops listed).contains i&&Region.free .any ops listed i&&sS ops rest (listed.setIfInBounds i true)
 | (i,false)::rest,listed=>(Region.ready .any ops listed==[i])&&sS ops rest (listed.setIfInBounds i true)
theorem iF (ρ:Operand ->Value) (o:Oper):execOp ρ (bare o)=execOp ρ o:=rfl
theorem lW {P:Program} {Q:Exit ->Act ->World ->Prop} {o:Oper} {a:Act} {w:World} (h:wpList P #[] Q [bare o] a w):
  (bare o).wp P a w (Q .normal) Q\/((bare o).asks P a w/\LetsOut Q):=by
 unfold wpList at h;rw [aJ (by simp [Region.wanted,bare])]at h;exact h
theorem lT {P:Program} {ops:Array Oper} {Q:Exit ->Act ->World ->Prop} {S:World ->Prop} (hQ:∀c a w,¬ Q (.panic c) a w) (hs:Region.noSelect ops=true):
  ∀(l:List (Nat × Bool)) (fuel:Nat) (listed:Array Bool) (a:Act) (w:World),l.length <=fuel ->sS ops l listed=true ->S w ->
   gC P ops.toList Q S l a w ->wpAnyH P .any ops Q S fuel listed a w
 | [],fuel,listed,a,w,_,Ly,_,h=>by
  simp only [sS,List.isEmpty_iff]at Ly;exact wpAnyH_done Ly h fuel
 | (i,true)::rest,0,_,_,_,hl,_,_,_=>by simp at hl
 | (i,false)::rest,0,_,_,_,hl,_,_,_=>by simp at hl
 | (i,true)::rest,fuel+1,listed,a,w,hl,Ly,hS,h=>by
  simp only [sS,bz]at Ly;obtain⟨⟨⟨hv,hr⟩,hf⟩,Ma⟩:=Ly;simp only [aF]at hl;obtain⟨o,ho,h⟩:=h;rw [nO,cm]at ho;rw [ho]at hv;simp only [Option.any_some]at hv;rcases h with⟨hg,d,hd,hds,a',hp,hk⟩ | ⟨hg,hk⟩
  ·refine wpAnyH_take (v:=a'.tmps.getD d undef) ho hs hf hr (fun c a w h=>(hQ _ _ _ h).elim) (.inl ⟨by rw [kY];exact hg,fun w' hw'=>?_⟩) hS ?_
   ·rcases lW (hp w' hw')with h1 | ⟨_,h2⟩
    ·unfold Oper.wp at h1
     rw [iF]at h1;rcases lU (P:=P) (ρ:=a.eval) hv w' with⟨v,w2,LA⟩ | ⟨x,w2,LA⟩
     ·rw [LA]at h1⊢
      obtain⟨_,h3,h4⟩:=h1;subst h4;subst h3;have:(bare o).dst=some d:=hd;rw [this];simp [Act.put,hds]
     ·rw [LA]at h1
      cases x <;>simp only [Oper.upon]at h1
      case panic=>exact absurd h1.1 (by simp)
    ·obtain⟨_,_,h3,_⟩:=h2
     exact absurd h3 (by simp)
   ·have ha:a.put o.dst (a'.tmps.getD d undef)=a':=by
     rcases lW (hp w hS)with h1 | ⟨_,h2⟩
     ·unfold Oper.wp at h1
      rw [iF]at h1;rcases lU (P:=P) (ρ:=a.eval) hv w with⟨v,w2,LA⟩ | ⟨x,w2,LA⟩
      ·rw [LA]at h1
       obtain⟨_,h3,h4⟩:=h1;have hd':(bare o).dst=some d:=hd;rw [<- h3,hd',hd];simp [Act.put,hds]
      ·rw [LA]at h1
       cases x <;>simp only [Oper.upon]at h1
       case panic=>exact absurd h1.1 (by simp)
     ·obtain⟨_,_,h3,_⟩:=h2
      exact absurd h3 (by simp)
    rw [ha];exact lT hQ hs rest fuel _ _ _ (by omega) Ma hS hk
  ·refine wpAnyH_take (v:=undef) ho hs hf hr (fun c a w h=>(hQ _ _ _ h).elim) (.inr ⟨by rw [kY];exact hg,rfl⟩) hS ?_
   exact lT hQ hs rest fuel _ _ _ (by omega) Ma hS hk
 | (i,false)::rest,fuel+1,listed,a,w,hl,Ly,hS,h=>by
  simp only [sS,bz,du]at Ly;obtain⟨hr,Ma⟩:=Ly;simp only [aF]at hl;obtain⟨o,ho,h⟩:=h;rw [nO,cm]at ho;refine wpAnyH_all hr (by simp) fun j hj=>?_;obtain rfl:j=i:=by simpa using hj
  unfold wpOp;simp only [ho];rw [kY];rcases h with⟨hg,hw⟩ | ⟨hg,hk⟩
  ·rw [aJ hg]
   have MT:∀a' w',nK Q S (gC P ops.toList Q S rest) .normal a' w' ->S w'/\wpAnyH P .any ops Q S fuel (listed.setIfInBounds j true) a' w':=
    fun a' w' h=>⟨h.1,lT hQ hs rest fuel _ _ _ (by omega) Ma h.1 h.2⟩
   have O2:LetsOut (nK Q S (gC P ops.toList Q S rest)) ->LetsOut Q:=fun⟨a,w,h⟩=>⟨a,w,h⟩;rcases lW hw with h1 | ⟨h1,h2⟩
   ·left
    unfold Oper.wp at h1⊢;rw [iF]at h1;generalize(execOp a.eval o).run P w=r at*;cases r with
    | ok n w'=>
     cases n <;>simp only [Oper.upon]at h1⊢
     case value=>exact MT _ _ h1
     case skip=>exact MT _ _ h1
     case defer=>exact MT _ _ h1
     case enter=>
      refine bU h1 fun e w'' he=>?_;cases e with
      | returned v=>exact MT _ _ he
      | panicked c=>exact he.elim
      | outgrown=>exact O2 he
     case row=>exact Rows.mono h1 fun v w'' he=>MT _ _ he
    | halt x w'=>
     cases x <;>simp only [Oper.upon]at h1⊢
     case panic=>exact h1.elim
   ·exact .inr ⟨h1,O2 h2⟩
  ·rw [aC (by rw [hg];simp)]
   exact⟨hS,lT hQ hs rest fuel _ _ _ (by omega) Ma hS hk⟩
theorem eu {P:Program} {ops:List Oper} {Q:Exit ->Act ->World ->Prop} {id:Nat} {a:Act} {w:World} (S:World ->Prop) (l:List (Nat × Bool)) (hm:P.follows .mixedOrders=true)
  (Ly:(sS ops.toArray l (Array.replicate ops.length false)&&Region.noSelect ops.toArray&&decide (l.length <=ops.length))=true) (hS:S w.drew)
  (h:gC P ops (NoPanic Q) S l a w.drew):(Code.region id ops.toArray true).wp P Q a w:=by
 simp only [bz,db]at Ly;obtain⟨⟨Ly,hn⟩,hl⟩:=Ly;refine dH (wp_region_held (S:=S) hm ?_);refine lT (S:=S) (fun c a w h=>h) hn l _ _ a _ ?_ ?_ hS ?_
 ·simpa using hl
 ·simpa using Ly
 ·simpa using h
section
variable {P:Program} {ops:List Oper} {Q:Exit ->Act ->World ->Prop} {S:World ->Prop} {i:Nat} {rest:List (Nat × Bool)} {a:Act} {w:World} {d:Tmp} {op:Op} {t:TypeId} {p:String} {af:Array Edge} {g:Option (Nat × Bool)}
theorem eJ {c:Code} (J:Act ->World ->Prop) (μ:Act ->World ->Nat) (h0:J a w)
  (round:∀(R:Act ->World ->Prop) a w,J a w ->Hid (∀a' w',J a' w' ->μ a' w' < μ a w ->R a' w') ->c.wp P (Exit.then R Q) a w):(Code.loop c).wp P Q a w:=
 wp_loop J μ h0 fun a w hJ=>round _ a w hJ (fun _ _ h1 h2=>⟨h1,h2⟩)
theorem xH {c:Code} {K:Act ->World ->Prop} {id:Nat} (J:Act ->World ->Prop) (μ:Act ->World ->Nat) (X:Act ->World ->Prop) (h0:J a w)
  (round:∀(R Y:Act ->World ->Prop) a w,J a w ->Hid (∀a' w',J a' w' ->μ a' w' < μ a w ->R a' w') ->Hid (∀a w,X a w ->Y a w) ->c.wp P (Exit.then R (Exit.inBlock id (Exit.then Y Q))) a w)
  (hX:∀a w,X a w ->K a w):(Code.loop c).wp P (Exit.inBlock id (Exit.then K Q)) a w:=
 eJ J μ h0 fun R a w hJ hR=>round R K a w hJ hR hX
theorem wp_cut {c:Code} (K:Act ->World ->Prop) (h1:c.wp P (fun e a w=>e= .normal/\K a w) a w) (h2:∀a w,K a w ->Q .normal a w):c.wp P Q a w:=
 Code.wp_mono (fun e a w h=>by rw [h.1];exact h2 a w h.2) h1
theorem ef (hi:nth ops i=some ⟨some d,op,t,p,af,g⟩) (hg:ko ops g a=true) (hd:Nat.ble (d+1) a.tmps.size=true) {a':Act} (hp:∀w',S w' ->wpList P #[] (Cv a' w') [⟨some d,op,t,p,#[],none⟩] a w')
  (h:gC P ops Q S rest a' w):gC P ops Q S ((i,true)::rest) a w:=
 ⟨_,hi, .inl ⟨hg,d,rfl,Nat.le_of_ble_eq_true hd,a',hp,h⟩⟩
theorem GJ {b:Bool} {dst:Option Tmp} (hi:nth ops i=some ⟨dst,op,t,p,af,g⟩) (hg:ko ops g a=false) (h:gC P ops Q S rest (a.put dst undef) w):gC P ops Q S ((i,b)::rest) a w:=by
 cases b
 ·exact⟨_,hi, .inr ⟨hg,h⟩⟩
 ·exact⟨_,hi, .inr ⟨hg,h⟩⟩
theorem eo {dst:Option Tmp} (hi:nth ops i=some ⟨dst,op,t,p,af,g⟩) (hg:ko ops g a=true) (h:wpList P #[] (nK Q S (gC P ops Q S rest)) [⟨dst,op,t,p,#[],none⟩] a w):gC P ops Q S ((i,false)::rest) a w:=
 ⟨_,hi, .inl ⟨hg,h⟩⟩
def up:Nat ->Nat ->List (Nat × Bool) ->List (Nat × Bool)
 | _,0,l=>l
 | i,n+1,l=>(i,true)::up (i+1) n l
theorem eV (h:Q .normal a w):gC P ops Q S [] a w:=h
def pt:List Value ->Option Tmp ->List Value
 | l,none=>l
 | [],_=>[]
 | _::l,some 0=>undef::l
 | x::l,some (n+1)=>x::pt l (some n)
theorem JL (l:List Value) (n:Nat):pt l (some n)=l.set n undef:=by
 induction l generalizing n with
 | nil=>cases n <;>rfl
 | cons x l ih=>cases n with
  | zero=>rfl
  | succ n=>simp [pt,ih]
theorem Jk (l:List Value) (d:Option Tmp):Act.put {tmps:=l.toArray,defers:=[]} d undef={tmps:=(pt l d).toArray,defers:=[]}:=by
 cases d with
 | none=>cases l <;>rfl
 | some n=>rw [JL];simp [Act.put]
theorem sk {b:Bool} {dst:Option Tmp} {l:List Value} (hi:nth ops i=some ⟨dst,op,t,p,af,g⟩) (hg:ko ops g {tmps:=l.toArray,defers:=[]}=false) (h:gC P ops Q S rest {tmps:=(pt l dst).toArray,defers:=[]} w):gC P ops Q S ((i,b)::rest) {tmps:=l.toArray,defers:=[]} w:=
 GJ hi hg (by rw [Jk];exact h)
end
end
end Go.Proofs.YthbjdhjppbcneaaGreatDoor
