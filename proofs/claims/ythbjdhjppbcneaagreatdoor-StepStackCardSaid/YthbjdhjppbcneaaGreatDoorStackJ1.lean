import Derived.Test.YthbjdhjppbcneaaGreatDoorProg
import Derived.WalkKit
import Derived.WalkSpells
import Derived.WalkLawsBesides
import Derived.OwnWalk
import Derived.Outline
import Derived.ScopeJumps
import Derived.Lib.Hide
import Derived.Below
import Derived.Deep.RegionWith
import Derived.Deep.QuietTactic
import Derived.BigQuiet
import Derived.OrdersHeld
import Derived.Deep.RegionHeld3
namespace Go.Proofs.YthbjdhjppbcneaaGreatDoor
set_option maxRecDepth 100000
set_option maxHeartbeats 20000000
open Go.RowKit Tryz
open Lib renaming hid->V
set_option linter.all false
def ag:=@Nat.le_refl
def ah:=@List.length_append
def an:=@Go.RowKit.Below.refl
def aq:=@List.getElem?_eq_getElem
def aw:=@Option.bind_some
def az:=@decide_eq_true
def aA:=@decide_eq_false
def aB:=@List.length_singleton
def aC:=@if_neg
def aD:=@Go.NoPanic.normal
def aE:=@Go.World.size_alloc
def aF:=@List.getElem?_cons_zero
def aG:=@List.getElem?_toArray
def aH:=@List.eq_nil_of_length_eq_zero
def aI:=@List.length_cons
def aJ:=@if_pos
def aK:=@Nat.add_zero
def aL:=@List.getElem?_eq_some_iff
def aM:=@List.length_nil
def aN:=@Go.bodyPost_ret
def aO:=@List.mem_of_getElem?
def aP:=@List.append_assoc
def aQ:=@List.take_add_one
def aR:=@List.length_take
def aS:=@Go.World.block_lt_of_cell?
def aT:=@List.getElem?_cons_succ
def aU:=@List.take_length
def aV:=@List.mem_singleton
def aW:=@Nat.le_trans
def aX:=@Option.some.injEq
def aY:=@Nat.eq_zero_or_pos
def aZ:=@List.setIfInBounds_toArray
def bg:=@Go.World.cell?_of_block
def bj:=@Nat.mul_one
def bm:=@List.length_drop
def bo:=@Go.run_underlying
def bp:=@List.getElem?_append_right
def bq:=@Nat.lt_or_ge
def bu:=@List.length_replicate
def bz:=@List.length_map
def bA:=@List.mem_append
def bB:=@Option.map_eq_some_iff
def bC:=@List.map_cons
def bD:=@List.getElem?_append_left
def bE:=@List.set_cons_succ
def bF:=@Option.map_some
def bG:=@Nat.zero_le
def bH:=@List.set_cons_zero
def bI:=@List.length_zip
def bJ:=@List.mem_cons
def bK:=@Nat.lt_of_lt_of_le
def bL:=@List.cons_append
def bM:=@List.nil_append
def bN:=@Bool.and_eq_true
def bO:=@List.not_mem_nil
def bP:=@Go.World.cell?_alloc_new
def bQ:=@Go.Lib.run_eql_slice_nil
def bR:=@List.flatMap_cons
def bS:=@List.flatten_cons
def bT:=@Go.Calls.mono
def bU:=@List.not_any_eq_all_not
def bV:=@Int.pow_succ
def bW:=@List.append_nil
def bX:=@Nat.zero_add
def bY:=@Nat.min_self
def bZ:=@Go.run_loadVar_row
def cd:=@Go.info_parts
def cg:=@List.map_append
def cm:=@Go.Sem.run_pure
def cn:=@List.getElem?_map
def cq:=@Array.getElem?_eq_some_iff
def ct:=@Bool.true_and
def cz:=@List.mem_of_mem_take
def cA:=@List.drop_eq_getElem_cons
def cB:=@Go.World.cell?_setCell_other
def cC:=@Go.Result.andThen_ok
def cD:=@of_decide_eq_true
def cE:=@Array.getElem?_toList
def cF:=@List.take_append_drop
def cG:=@List.getElem?_take
def cH:=@Bool.false_eq_true
def cI:=@Int.toNat_natCast
def cJ:=@Nat.min_eq_left
def cK:=@List.getElem?_zip_eq_some
def cL:=@Bool.decide_and
def cM:=@Go.Sem.run_bind
def cN:=@Go.RowKit.Below.heap_setCell
def cO:=@Go.rounds_succ
def cP:=@List.take_left
def cQ:=@Nat.pow_le_pow_right
def cR:=@List.map_nil
def cS:=@or_false
def cT:=@List.getElem?_eq_none
def cU:=@Go.wp_loop_rounds
def cV:=@Nat.add_mul
def cW:=@congrArg
def cX:=@List.pairwise_append
def cY:=@if_true
def cZ:=@Go.frozen_of_row
def c9:=@List.getLast?_cons_cons
def da:=@List.drop_left
def db:=@List.dropLast_concat_getLast
def dc:=@decide_eq_decide
def dd:=@List.take_of_length_le
def de:=@Nat.add_sub_cancel
def df:=@Option.isNone_some
def dg:=@Option.isNone_none
def dh:=@List.zip_append
def di:=@List.length_set
def dj:=@decide_eq_true_eq
def dk:=@Nat.mul_le_mul_right
def dm:=@Bool.or_eq_false_iff
def dn:=@List.length_dropLast
def dq:=@Go.heap_alloc_new
def dr:=@List.map_toArray
def dt:=@Nat.le_of_eq
def du:=@Go.ByteArray.toList_eq
def dv:=@UInt8.toNat_inj
def dw:=@Bool.eq_iff_iff
def dx:=@List.take_left'
def dy:=@List.size_toArray
def dz:=@List.any_eq_false
def dA:=@Decidable.not_not
def dB:=@List.singleton_append
def dC:=@beq_iff_eq
def dD:=@Option.getD_some
def dE:=@beq_eq_false_iff_ne
def dF:=@Nat.mul_le_mul_left
def dG:=@List.getLast?_eq_getElem?
def dH:=@List.mem_or_eq_of_mem_set
def dI:=@and_congr_left'
def dJ:=@Go.grownCap_le_maxLen
def dK:=@Go.wpList_plain
def dL:=@List.mem_replicate
def dM:=@Go.step_scope
def dN:=@Bool.not_eq_true'
def dO:=@Nat.le_succ
def dP:=@List.map_take
section
def Stop (p:Prop):Prop:=p
theorem Stop.out {p:Prop} (h:Stop p):p:=h
def ey (v:Value) (k:Nat):Prop:=v.ownBlock=some k
structure dS (S:Nat ->Prop) (w w':World):Prop where
 os:w'.os=w.os
 tape:w'.tape=w.tape
 output:w'.output=w.output
 size:w.heap.size <=w'.heap.size
 block:∀k,k < w.heap.size ->¬ S k ->w'.heap[k]?=w.heap[k]?
theorem dS.refl (S:Nat ->Prop) (w:World):dS S w w:=⟨rfl,rfl,rfl,ag _,fun _ _ _=>rfl⟩
theorem dS.trans {S S':Nat ->Prop} {a b c:World} (h:dS S a b) (k:dS S' b c) (hs:∀i,S' i ->S i\/a.heap.size <=i):dS S a c:=
 ⟨k.os.trans h.os,k.tape.trans h.tape,k.output.trans h.output,aW h.size k.size,fun i hi hn=>
  (k.block i (bK hi h.size) (fun s=>(hs i s).elim hn (fun h=>by omega))).trans (h.block i hi hn)⟩
theorem dS.mono {S S':Nat ->Prop} {a b:World} (h:dS S a b) (hs:∀i,S i ->S' i):dS S' a b:=
 ⟨h.os,h.tape,h.output,h.size,fun i hi hn=>h.block i hi (fun s=>hn (hs i s))⟩
theorem dS.below {S:Nat ->Prop} {B:Nat} {a b:World} (h:dS S a b) (hB:B <=a.heap.size) (hs:∀i,S i ->B <=i):Below B a b:=
 ⟨h.os,h.tape,h.output,h.size,fun i hi=>h.block i (by omega) (fun s=>by have:=hs i s;omega)⟩
theorem dS.dV {S:Nat ->Prop} {a b:World} (h:Below a.heap.size a b):dS S a b:=
 ⟨h.os,h.tape,h.output,h.size,fun i hi _=>h.block i hi⟩
theorem dS.drew {S:Nat ->Prop} {a b:World} (h:dS S a b):dS S a b.drew:=⟨h.os,h.tape,h.output,h.size,h.block⟩
theorem dS.alloc {S:Nat ->Prop} {a b:World} (h:dS S a b) (o:Obj):dS S a (b.alloc o):=
 h.trans (dS.dV ((an _ _).alloc (ag _) o) (S:=fun _=>False)) (fun _ h=>h.elim)
theorem fM {B:Nat} {a b:World} (h:Below B a.drew b):Below B a b:=⟨h.os,h.tape,h.output,h.size,h.block⟩
theorem dS.Ak {S:Nat ->Prop} {a b:World} (h:dS S a.drew b):dS S a b:=⟨h.os,h.tape,h.output,h.size,h.block⟩
def eC (w:World) (v v':Value):Prop:=∀k,ey v' k ->ey v k\/w.heap.size <=k
theorem eC.refl (w:World) (v:Value):eC w v v:=fun _ h=> .inl h
theorem eC.trans {w w1:World} {a b c:Value} (h:eC w a b) (k:eC w1 b c) (hs:w.heap.size <=w1.heap.size):eC w a c:=
 fun i hi=>(k i hi).elim (h i) (fun h=> .inr (by omega))
theorem mm {w w':World} {S:Nat ->Prop} {base e size n:Nat} {v:Value} {xs:List Value} (h:w.ownsRow base e size v n xs) (hk:dS S w w') (hs:∀k,ey v k ->¬ S k):
  w'.ownsRow base e size v n xs:=by
 refine⟨h.1,?_⟩;rcases h.2 with hn | ⟨g,cap,cur,rfl,hb,hgg,rest⟩
 ·exact .inl hn
 ·refine .inr ⟨g,cap,cur,rfl,hb,?_,rest⟩
  rw [hk.block g (cq.1 hgg).1 (hs g rfl)];exact hgg
theorem eo {w:World} {base e size n:Nat} {v:Value} {xs:List Value} (h:w.ownsRow base e size v n xs) {k:Nat} (hk:ey v k):base <=k/\k < w.heap.size:=h.lt k hk
theorem mC {w:World} {base base' e size n:Nat} {v:Value} {xs:List Value} (h:w.ownsRow base e size v n xs) (hs:∀k,ey v k ->base' <=k):w.ownsRow base' e size v n xs:=by
 refine⟨h.1,?_⟩;rcases h.2 with hn | ⟨g,cap,cur,rfl,hb,rest⟩
 ·exact .inl hn
 ·exact .inr ⟨g,cap,cur,rfl,hs g rfl,rest⟩
section
variable {P:Program} (w:World)
theorem sE (base:Nat) (t ty e:TypeId) (i:TypeInfo) (z:Value) (size bytes:Nat) (ht:P.underlying t=some (.slice e)) (hi:P.info? e=some i) (hz:i.zero=some z)
  (Pj:i.size=size) (MX:i.bytes=bytes) (hzs:z.cells.size=size) (Lf:0 < size)
  (v:Value) (n:Nat) (xs:List Value) (Ki:w.ownsRow base e size v n xs)
  (a:Addr) (m c:Nat) (news:List Value) (hl:news.length=m*size) (N9:∀j u,news[j]?=some u ->w.cell? (a.add j)=some u) (h1:∀u∈news,u.oneCell'=true)
  (Ou:n+m <=maxLen) (NL:(n+m)*bytes <=140737488355328) (KO:base <=w.heap.size):
  ∃v' w',(Builtin.append_ #[t,t] ty #[v, .slice (some a) m c]).run P w= .ok v' w'/\w'.ownsRow base e size v' (n+m) (xs++news)/\dS (ey v) w w'/\eC w v v':=by
 subst Pj;subst MX;have hsmall:n+m <=9223372036854775807:=by simp only [maxLen]at Ou;omega
 have hlen:(xs++news).length=(n+m)*i.size:=by rw [ah,Ki.1,hl,cV]
 have grown:∀(old:Nat),old < n+m ->
   (w.drew.alloc (.cells (xs.toArray++news.toArray++Builtin.zeroCells z.cells (grownCap w (n+m) old e - (n+m))) e)).ownsRow base e i.size
    (.slice (some ⟨w.heap.size,0,none⟩) (n+m) (grownCap w (n+m) old e)) (n+m) (xs++news)/\
   dS (ey v) w (w.drew.alloc (.cells (xs.toArray++news.toArray++Builtin.zeroCells z.cells (grownCap w (n+m) old e - (n+m))) e))/\
   eC w v (.slice (some ⟨w.heap.size,0,none⟩) (n+m) (grownCap w (n+m) old e)):=by
  intro old ho;have hge:=grownCap_ge w (n+m) old e;have Mr:grownCap w (n+m) old e <=maxLen:=dJ w (n+m) old e Ou;refine⟨⟨hlen, .inr ⟨w.heap.size,_,_,rfl,KO,dq w.drew _,hge,Mr,?_,?_⟩⟩,(dS.refl _ _).drew.alloc _,fun k hk=> .inr ?_⟩
  ·simp only [Array.size_append,dy,size_zeroCells,hzs,Ki.1,hl, <- cV]
   congr 1
   omega
  ·simp only [Array.toList_append,aP]
   rw [<- aP, <- hlen];exact cP
  ·simp [ey,Value.ownBlock]at hk
   omega
 rcases Ki.2 with⟨rfl,rfl⟩ | ⟨g,cap,cur,rfl,hbg,hg,hnc,Mr,Qm,Qn⟩
 ·have hx:xs=[]:=aH (by simpa using Ki.1)
  subst hx;by_cases hm:m=0
  ·subst hm
   have hn:news=[]:=aH (by simpa using hl);subst hn;refine⟨.slice none 0 0,w,?_,World.ownsRow_nil w base e i.size,dS.refl _ _,eC.refl _ _⟩;simp [Builtin.append_,bo ht,sizeOf,typeInfo,hi,Builtin.lenOf,Builtin.firstCells,loadCells,loadCellsFrom]
  ·have hr:=run_append_nil (P:=P) w t ty e i z ht hi hz a m c news hl N9 (by omega) (by omega) (by have hb:=NL;simp only [bX]at hb;omega)
   have OK:=grown 0 (by omega);simp only [bX,bM,Array.empty_append]at OK⊢;exact⟨_,_,hr,OK.1,OK.2.1,OK.2.2⟩
 ·by_cases Oa:n+m <=cap
  ·have hfit:n*i.size+news.length <=cur.size:=by rw [hl,Qm, <- cV];exact dk _ Oa
   have hr:=run_append_room (P:=P) w t ty e i ht hi g n cap cur hg a m c news hl N9 h1 Oa hfit;refine⟨_,_,hr,⟨hlen, .inr ⟨g,cap,_,rfl,hbg,setRow_heap w g cur _ e _ hg,Oa,Mr,?_,?_⟩⟩,⟨rfl,rfl,rfl,by simp,fun k _ hk=>setRow_other w g k _ (fun e=>hk (by simp [ey,Value.ownBlock,e]))⟩,fun k hk=> .inl hk⟩
   ·simp only [dy,ah,aR,bm,Array.length_toList]
    omega
   ·rw [Qn, <- hlen]
    exact cP
  ·have holds:∀j u,xs[j]?=some u ->w.cell? ((⟨g,0,none⟩:Addr).add j)=some u:=Ki.cells (g:=g) rfl
   have hr:=run_append_grow (P:=P) w t ty e i z ht hi hz ⟨g,0,none⟩ n cap xs Ki.1 holds a m c news hl N9 (by omega) (by omega) (growslice_fits (by omega) NL);have OK:=grown cap (by omega);exact⟨_,_,hr,OK.1,OK.2.1,OK.2.2⟩
theorem qh {ops:Array Oper} {rest:List Oper} {o:Oper} {a:Act} {Q:Exit ->Act ->World ->Prop} (Ob:o.guard=none) (s x:Operand) (t:TypeId)
  (ho:o.op= .call {callee:= .builtin .append,args:=#[s,x],argTypes:=#[t,t]})
  (base:Nat) (e:TypeId) (i:TypeInfo) (z:Value) (size bytes:Nat) (ht:P.underlying t=some (.slice e)) (hi:P.info? e=some i) (hz:i.zero=some z)
  (Pj:i.size=size) (MX:i.bytes=bytes) (hzs:z.cells.size=size) (Lf:0 < size)
  (v:Value) (n:Nat) (xs:List Value) (hs:a.eval s=v) (Ki:w.ownsRow base e size v n xs)
  (ad:Addr) (m c:Nat) (news:List Value) (hx:a.eval x= .slice (some ad) m c) (hl:news.length=m*size) (N9:∀j u,news[j]?=some u ->w.cell? (ad.add j)=some u) (h1:∀u∈news,u.oneCell'=true)
  (Ou:n+m <=maxLen) (NL:(n+m)*bytes <=140737488355328) (KO:base <=w.heap.size)
  (h:∀v' w',w'.ownsRow base e size v' (n+m) (xs++news) ->dS (ey v) w w' ->eC w v v' ->wpList P ops Q rest (a.put o.dst v') w'):wpList P ops Q (o::rest) a w:=
 dK Ob fun _ hK=>by
  obtain⟨v',w',hr,h2,h3,h4⟩:=sE (P:=P) w base t o.type e i z size bytes ht hi hz Pj MX hzs Lf v n xs Ki ad m c news hl N9 h1 Ou NL KO;unfold Oper.wp execOp;simp only [ho,resolve,invoke,builtin,cM,cm,cC,dr,bC,cR,hs,hx,hr];exact hK _ _ (h v' w' h2 h3 h4)
theorem se {ops:Array Oper} {rest:List Oper} {o:Oper} {a:Act} {Q:Exit ->Act ->World ->Prop} (Ob:o.guard=none) (s x:Operand) (t:TypeId)
  (ho:o.op= .call {callee:= .builtin .append,args:=#[s,x],argTypes:=#[t,t]})
  (base:Nat) (e:TypeId) (i:TypeInfo) (z:Value) (size bytes:Nat) (ht:P.underlying t=some (.slice e)) (hi:P.info? e=some i) (hz:i.zero=some z)
  (Pj:i.size=size) (MX:i.bytes=bytes) (hzs:z.cells.size=size) (Lf:0 < size)
  (v:Value) (n:Nat) (xs:List Value) (hs:a.eval s=v) (Ki:w.ownsRow base e size v n xs)
  (news:List Value) (hx:a.eval x= .slice (some ⟨w.heap.size,0,none⟩) 1 1) (hl:news.length=size) (h1:∀u∈news,u.oneCell'=true)
  (Ou:n+1 <=maxLen) (NL:(n+1)*bytes <=140737488355328) (KO:base <=w.heap.size)
  (h:∀v' w',w'.ownsRow base e size v' (n+1) (xs++news) ->dS (ey v) w w' ->eC w v v' ->wpList P ops Q rest (a.put o.dst v') w'):wpList P ops Q (o::rest) a (w.alloc (.cells news.toArray e)):=by
 have hk:dS (ey v) w (w.alloc (.cells news.toArray e)):=(dS.refl _ _).alloc _;refine qh (P:=P) (w.alloc (.cells news.toArray e)) Ob s x t ho base e i z size bytes ht hi hz Pj MX hzs Lf v n xs hs (Ki.alloc _) ⟨w.heap.size,0,none⟩ 1 1 news hx (by omega) ?_ h1 Ou NL (by simp;omega) ?_
 ·intro j u hu
  have Oc:(⟨w.heap.size,0,none⟩:Addr).add j=⟨w.heap.size,j,none⟩:=by unfold Addr.add;split <;>simp_all
  rw [Oc,bP];simpa using hu
 ·intro v' w' h2 h3 h4
  refine h v' w' h2 (hk.trans h3 (fun i hi=> .inl hi)) (fun k hk'=>(h4 k hk').imp id (fun h=>?_));have:w.heap.size <=(w.alloc (.cells news.toArray e)).heap.size:=by simp
  omega
end
abbrev bv (x:UInt8):Value:= .int .u8 (x.toNat:Int)
theorem z6 (l:List UInt8):∀u∈l.map bv,u.oneCell'=true:=by
 intro u hu;obtain⟨x,_,rfl⟩:=List.mem_map.1 hu;rfl
theorem oC:(prog.info? 5).map (fun i=>(i.zero,i.size,i.bytes))=some (some (.int .u8 0),1,1):=by kernel_rfl
def dU (w:World) (B:Nat) (v:Value) (l:List UInt8):Prop:=w.ownsRow B 5 1 v l.length (l.map bv)
theorem dU.nil (w:World) (B:Nat):dU w B (.slice none 0 0) []:=World.ownsRow_nil w B _ _
theorem dU.keeps {w w':World} {S:Nat ->Prop} {B:Nat} {v:Value} {l:List UInt8} (h:dU w B v l) (hk:dS S w w') (hs:∀k,ey v k ->¬ S k):dU w' B v l:=mm h hk hs
theorem dU.below {w w':World} {B:Nat} {v:Value} {l:List UInt8} (h:dU w B v l) (hk:Below w.heap.size w w'):dU w' B v l:=
 mm h (dS.dV (S:=fun _=>False) hk) (fun _ _ h=>h)
theorem eV {P:Program} (w:World) {ops:Array Oper} {rest:List Oper} {o:Oper} {a:Act} {Q:Exit ->Act ->World ->Prop} (Ob:o.guard=none) (s x:Operand)
  (hP:P=prog) (ho:o.op= .call {callee:= .builtin .append,args:=#[s,x],argTypes:=#[97,97]})
  (B:Nat) (v:Value) (l:List UInt8) (hs:a.eval s=v) (Ki:dU w B v l)
  (y:UInt8) (m:Int) (hm:m=y.toNat) (hx:a.eval x= .slice (some ⟨w.heap.size,0,none⟩) 1 1)
  (Ou:l.length <=140737488355327) (KO:B <=w.heap.size)
  (h:∀v' w',dU w' B v' (l++[y]) ->dS (ey v) w w' ->eC w v v' ->wpList P ops Q rest (a.put o.dst v') w'):wpList P ops Q (o::rest) a (w.alloc (.cells #[.int .u8 m] 5)):=by
 subst hP;subst hm;obtain⟨i0,hi,MY,LG,Mm⟩:=cd oC;refine se (P:=prog) w Ob s x 97 ho B 5 i0 (.int .u8 0) 1 1 (by kernel_rfl) hi MY LG Mm rfl (by decide) v l.length (l.map bv) hs Ki [bv y] hx rfl (z6 [y]) (by simp only [maxLen];omega) (by omega) KO ?_;intro v' w' h2 h3 h4;refine h v' w' ?_ h3 h4;simpa [dU] using h2
theorem jY {P:Program} {a:Act} {w:World} {Q:Exit ->Act ->World ->Prop} {c rest:Code} (l:Nat) (J:Act ->World ->Prop) (μ:Act ->World ->Nat) (hf:findLabel c l=some (.seq .skip rest))
  (pass:∀a w,J a w ->rest.wp P (Exit.jump l (fun a' w'=>J a' w'/\μ a' w' < μ a w) Q) a w)
  (first:(∀a w,J a w ->rest.wp P (Exit.jump l J Q) a w) ->c.wp P (Exit.jump l J Q) a w):(Code.scope c).wp P Q a w:=by
 refine wp_scope_jumps l J μ hf (first fun a w hJ=>Code.wp_mono ?_ (pass a w hJ)) fun a w hJ=>wp_seq (wp_skip ?_)
 ·intro e a' w' h
  cases e <;>first | exact h | exact⟨h.1,h.2.1⟩
 ·exact pass a w hJ
theorem lh {l:Nat} {J:Act ->World ->Prop} {μ:Act ->World ->Nat} {Q:Exit ->Act ->World ->Prop} {a:Act} {w:World} {m:Nat} (h:J a w) (hm:μ a w < m):Exit.jump l (fun a' w'=>J a' w'/\μ a' w' < m) Q (.goto l) a w:=⟨rfl,h,hm⟩
theorem iJ (l:Nat) (J:Act ->World ->Prop) (Q:Exit ->Act ->World ->Prop) (a:Act) (w:World):Exit.jump l J Q .ret a w=Q .ret a w:=rfl
def eI (w:World) (v:Value) (l:List UInt8):Prop:=
 ∃a cap,v= .slice a l.length cap/\l.length <=cap/\cap <=maxLen/\∀i x,l[i]?=some x ->∃b off,a=some ⟨b,off,none⟩/\w.cell? ⟨b,off+i,none⟩=some (bv x)
theorem eI.nil (w:World):eI w (.slice none 0 0) []:=⟨none,0,rfl,ag _,by simp [maxLen],by simp⟩
theorem eI.below {w w':World} {v:Value} {l:List UInt8} (h:eI w v l) (hb:Below w.heap.size w w'):eI w' v l:=by
 obtain⟨a,cap,hv,h1,h2,h3⟩:=h;refine⟨a,cap,hv,h1,h2,fun i x hx=>?_⟩;obtain⟨b,off,ha,hc⟩:=h3 i x hx;exact⟨b,off,ha,by rw [hb.cell (aS w _ hc)];exact hc⟩
theorem dU.fm {w:World} {B:Nat} {v:Value} {l:List UInt8} (h:dU w B v l):eI w v l:=by
 obtain⟨hl,hv | ⟨g,cap,cur,hv,hb,hg,hn,hm,hs,ht⟩⟩:=h
 ·obtain⟨rfl,h0⟩:=hv
  obtain rfl:l=[]:=aH h0;exact eI.nil w
 ·refine⟨_,cap,hv,hn,hm,fun i x hx=>⟨g,0,rfl,?_⟩⟩
  rw [cell_of_row w g _ cur _ _ hg,bX];have h1:(l.map bv)[i]?=some (bv x):=by simp [hx]
  rw [<- ht,cG]at h1;split at h1
  ·simpa using h1
  ·cases h1
theorem eI.take {w:World} {a:Option Addr} {n cap:Nat} {l:List UInt8} (h:eI w (.slice a n cap) l) (k:Nat) (hk:k <=l.length):eI w (.slice a k cap) (l.take k):=by
 obtain⟨a',KE,hv,h1,h2,h3⟩:=h;injection hv with e1 e2 e3;subst e1 e2 e3;refine⟨a,cap,?_,?_,h2,fun i x hx=>?_⟩
 ·rw [aR,cJ hk]
 ·rw [aR];omega
 ·rw [cG]at hx
  split at hx
  ·exact h3 i x hx
  ·cases hx
def bs (l:List UInt8):ByteArray:=⟨l.toArray⟩
theorem foldl_push:∀(l:List UInt8) (s:ByteArray),((l.map fun x=>(x.toNat:Int)).foldl (fun r n=>r.push (UInt8.ofNat n.toNat)) s)=⟨s.data++l.toArray⟩
 | [],s=>by simp
 | x::l,s=>by
  simp only [bC,List.foldl_cons];rw [foldl_push l];simp [ByteArray.push]
theorem pB {w:World} {v:Value} {l:List UInt8} (h:eI w v l):(convert 97 9 v).run prog w= .ok (.string (bs l)) w:=by
 obtain⟨a,cap,rfl,h1,h2,h3⟩:=h;rw [run_convert_bytes_string w 97 9 5 a l.length cap (by kernel_rfl) (by kernel_rfl) (by kernel_rfl)];cases l with
 | nil=>
  cases a with
  | none=>rfl
  | some a=>rfl
 | cons x l=>
  obtain⟨b,off,rfl,_⟩:=h3 0 x rfl;have hl:=run_loadCells_list (P:=prog) w ⟨b,off,none⟩ ((x::l).map bv) (fun j u hu=>by
   rw [cn]at hu;cases hj:(x::l)[j]? with
   | none=>rw [hj]at hu;cases hu
   | some y=>
    rw [hj]at hu;simp at hu;subst hu;obtain⟨b',off',he,hc⟩:=h3 j y hj;injection he with he;injection he with e1 e2;subst e1 e2;have Oc:(⟨b,off,none⟩:Addr).add j=⟨b,off+j,none⟩:=by
     unfold Addr.add;split <;>simp_all
    rw [Oc];exact hc)
  rw [bz]at hl;rw [run_bytesToString w ⟨b,off,none⟩ (x::l).length cap ((x::l).map fun x=>(x.toNat:Int)) (by rw [hl];simp [List.map_map])];rw [foldl_push];have he:ByteArray.empty.data=#[]:=rfl;rw [he];simp [bs]
theorem ln (l:List UInt8):(bs l).toList=l:=by
 rw [du];rfl
theorem eF {a b:Int} (h:a=b):(a==b)=true:=by simp [h]
theorem dQ {a b:Int} (h:a≠b):(a==b)=false:=by simp [h]
theorem fc {a b:Int} (h:a≠b):(a !=b)=true:=bne_iff_ne.2 h
theorem jI {a b:Int} (h:a=b):(a !=b)=false:=by rw [h];exact bne_self_eq_false b
theorem I7:∀x:Fin 256,x.val ||| 128=x.val %128+128:=by decide+kernel
theorem ua (n:Nat) (h:n < 256):bits .or .u8 (n:Int) 128=((n %128+128:Nat):Int):=by
 have h0:=u8_or_nat n 128 h (by omega);rw [I7 ⟨n,h⟩]at h0;exact h0
def b8 (n:Nat):UInt8:=UInt8.ofNat n
theorem fJ {n:Nat} (h:n < 256):(b8 n).toNat=n:=by simpa [b8] using Nat.mod_eq_of_lt h
end
def jB:Nat ->Nat ->List UInt8
 | 0,_=>[]
 | f+1,n=>if n < 128 then [b8 n]else b8 (n %128+128)::jB f (n/128)
def eL (n:Nat):List UInt8:=jB 10 n
def Jk (xs:List UInt8) (u:Nat) (B:Nat) (b:Value) (w w':World) (v:Value) (n:Nat):Prop:=
 ∃(ys:List UInt8) (k f:Nat),dU w' B v ys/\dS (ey b) w w'/\eC w b v/\ys.length <=xs.length+k/\k+f=9/\n < 2*128^f/\ys++jB (f+1) n=xs++jB 10 u
def Gu (xs:List UInt8) (u:Nat) (B:Nat) (b:Value) (w:World) (e:Ending) (w':World):Prop:=
 ∃v,e= .returned v/\dU w' B v (xs++eL u)/\dS (ey b) w w'/\eC w b v
theorem Ij (n:Nat):bits .or .u8 ((n:Int) %256) 128=((b8 (n %128+128)).toNat:Int):=by
 have h:=ua (n %256) (by omega);rw [show n %256 %128=n %128 from by omega]at h;rw [fJ (by omega), <- h];rfl
theorem iT (b:Value) (xs:List UInt8) (u:Nat) (h1:u < 18446744073709551616) (B:Nat) (w:World) (Ki:dU w B b xs) (hn:xs.length <=1000000000) (hB:B <=w.heap.size):
  Calls prog 235 #[b, .int .u64 u] w (Gu xs u B b w):=by
 go_enter func235,ntmps235;go_wp2;refine jY 0 (fun a' w'=>∃(v:Value) (n:Nat) (u5 u6 u7 u8 u9 u10 Qo PL Qp Qq Qr u16 Qs Qt Qu:Value),a'={tmps:=#[v, .int .u64 n,undef,undef, .slice none 0 0,u5,u6,u7,u8,u9,u10,Qo,PL,Qp,Qq,Qr,u16,Qs,Qt,Qu],defers:=[]}/\Jk xs u B b w w' v n) (fun a' _=>(intOf (a'.tmps.getD 1 undef)).toNat) rfl ?_ ?_
 ·rintro a' w1 ⟨v,n,u5,u6,u7,u8,u9,u10,Qo,PL,Qp,Qq,Qr,u16,Qs,Qt,Qu,rfl,hJ⟩
  obtain⟨ys,k,f,NT,hk,hs,hlen,hkf,hnf,heq⟩:=hJ;have HE:=V heq;have HK:=V hkf;have hk9:k <=9:=by omega
  clear heq hkf Ki;have Lf:=hk.size;by_cases Kq:n < 128
  ·go_wp2_with (first | (at_builtin;refine eV w1 rfl _ _ rfl rfl B v ys rfl NT (b8 n) _ ?_ rfl ?_ ?_ ?_))
   ·rw [fJ (by omega)]
   ·omega
   ·omega
   ·intro v' w2 KB Kp Ku
    go_wp2;rw [iJ];go_ret;refine⟨v',rfl,?_,hk.trans Kp ?_,hs.trans Ku Lf⟩
    ·have h:=HE.out
     rw [jB,aJ Kq]at h;rw [eL, <- h];exact KB
    ·exact fun i hi=>hs i hi
  ·go_wp2_with (first | (at_builtin;refine eV w1 rfl _ _ rfl rfl B v ys rfl NT (b8 (n %128+128)) _ (Ij n) rfl ?_ ?_ ?_))
   ·omega
   ·omega
   ·intro v' w2 KB Kp Ku
    go_wp2
    go_step3
    have hf:f≠0:=by
     rintro rfl;omega
    obtain⟨f',rfl⟩:∃f',f=f'+1:=⟨f - 1,by omega⟩;have hnq:((n:Int)/128)=((n/128:Nat):Int):=by omega
    rw [hnq];refine lh ⟨v',n/128,_,_,_,_,_,_,_,_,_,_,_,_,_,_,_,rfl,ys++[b8 (n %128+128)],k+1,f',KB,hk.trans Kp (fun i hi=>hs i hi),hs.trans Ku Lf,?_,?_,?_,?_⟩ ?_
    ·simp
     omega
    ·have:=HK.out
     omega
    ·rw [Nat.pow_succ]at hnf
     omega
    ·have h:=HE.out
     rw [jB,aC Kq]at h;rw [<- h];simp
    ·simp [intOf]
     omega
 ·intro H
  apply wp_seq_k;intro K hK;apply wp_label;apply hK;exact H _ _ ⟨b,u,_,_,_,_,_,_,_,_,_,_,_,_,_,_,_,rfl,xs,0,9,Ki,dS.refl _ _,eC.refl _ _,by omega,rfl,by omega,rfl⟩
def cont:List UInt8 ->Nat
 | []=>0
 | x::l=>if 128 <=x.toNat then cont l+1 else 0
theorem wW:∀l:List UInt8,cont l <=l.length
 | []=>ag _
 | x::l=>by
  have:=wW l;simp only [cont,aI];split <;>omega
theorem Cb:∀(l:List UInt8) (i:Nat) (x:UInt8),l[i]?=some x ->i < cont l ->128 <=x.toNat
 | [],i,x,h,_=>by simp at h
 | y::l,0,x,h,hi=>by
  simp at h;subst h;simp only [cont]at hi;split at hi
  ·assumption
  ·omega
 | y::l,i+1,x,h,hi=>by
  simp only [cont]at hi;split at hi
  ·exact Cb l i x (by simpa using h) (by omega)
  ·omega
theorem BX:∀(l:List UInt8) (x:UInt8),l[cont l]?=some x ->x.toNat < 128
 | [],x,h=>by simp at h
 | y::l,x,h=>by
  simp only [cont]at h;split at h
  ·exact BX l x (by simpa using h)
  ·rename_i hy
   simp at h;subst h;omega
def eY (bits:Int) (l:List UInt8):Nat × Int:=
 if bits < 1\/64 < bits then(0,3)
 else if(bits+6)/7 <=cont l then(0,1)
 else if cont l=l.length then(0,2)
 else(cont l+1,0)
def Is (bits:Int) (l:List UInt8) (w:World) (e:Ending) (w':World):Prop:=
 e= .returned (.tuple #[.int .i64 (eY bits l).1, .int .i64 (eY bits l).2])/\w=w'
def J8 (l:List UInt8) (fg:Nat) (w w':World) (n:Nat):Prop:=w'=w/\n <=fg/\n <=cont l
theorem mP (b:Value) (l:List UInt8) (bits:Int) (w:World) (hb:eI w b l) (Kw: -9223372036854775808 <=bits) (Kl:bits <=9223372036854775807):
  Calls prog 268 #[b, .int .i64 bits] w (Is bits l w):=by
 obtain⟨a,cap,rfl,hl,hm,hc⟩:=hb;unfold maxLen at hm;have HC:=V hc;clear hc;by_cases h1:bits < 1
 ·go_enter func268,ntmps268
  go_wp2
  go_step3
  go_wp2;rw [Exit.noGoto_ret]
  go_ret2
  exact⟨by rw [eY,aJ (.inl h1)];rfl,rfl⟩
 by_cases h2:64 < bits
 ·go_enter func268,ntmps268
  go_wp2
  go_step3
  go_wp2;rw [Exit.noGoto_ret]
  go_ret2
  exact⟨by rw [eY,aJ (.inr h2)];rfl,rfl⟩
 have PM:=wW l;obtain⟨q,hq⟩:∃q:Nat,(q:Int)=(bits+6)/7:=⟨((bits+6)/7).toNat,by omega⟩;have hq0:1 <=q:=by omega
 have hq1:q <=10:=by omega
 have HQ:=V hq;clear hq;go_enter func268,ntmps268;go_wp2;refine jY 0 (fun a' w'=>∃(n:Nat) (u8 u9 u10 Qo PL Qp Qq Qr u16 Qs Qt Qu u20 u21 u22 u23 u24 u25 u26 u27 u28 u29 u30 u31 u32 u33 u34 u35 u36:Value),a'={tmps:=#[.slice a l.length cap, .int .i64 bits,undef,undef, .int .i64 0, .int .i64 0, .int .i64 n, .int .i64 q,u8,u9,u10,Qo,PL,Qp,Qq,Qr,u16,Qs,Qt,Qu,u20,u21,u22,u23,u24,u25,u26,u27,u28,u29,u30,u31,u32,u33,u34,u35,u36],defers:=[]}/\J8 l q w w' n) (fun a' _=>(q - (intOf (a'.tmps.getD 6 undef)).toNat)) rfl ?_ ?_
 ·rintro a' w1 ⟨n,u8,u9,u10,Qo,PL,Qp,Qq,Qr,u16,Qs,Qt,Qu,u20,u21,u22,u23,u24,u25,u26,u27,u28,u29,u30,u31,u32,u33,u34,u35,u36,rfl,hJ⟩
  obtain⟨rfl,hn,hnc⟩:=hJ;by_cases e1:n=q
  ·subst e1
   go_wp2;rw [iJ]
   go_ret2
   exact⟨by rw [eY,aC (by omega),aJ (by have:=HQ.out;omega)];rfl,rfl⟩
  have b1:=dQ (a:=(n:Int)) (b:=(q:Int)) (by omega);by_cases e2:n=l.length
  ·subst e2
   go_wp2;rw [iJ]
   go_ret2
   exact⟨by rw [eY,aC (by omega),aC (by have:=HQ.out;omega),aJ (by omega)];rfl,rfl⟩
  have b2:=dQ (a:=(n:Int)) (b:=(l.length:Int)) (by omega);obtain⟨x,hx⟩:∃x,l[n]?=some x:=⟨_,aq (show n < l.length by omega)⟩;obtain⟨b,off,rfl,hc⟩:=HC.out n x hx;have hx8:=x.toNat_lt;have HX:=V hx;clear hx;have Kq:n < l.length:=by omega
  by_cases e3:128 <=x.toNat
  ·have hnc':n < cont l:=by
    rcases bq n (cont l)with h | h
    ·exact h
    ·obtain rfl:n=cont l:=by omega
     have:=BX l x HX.out;omega
   go_wp2
   go_step3
   simp only [Exit.inBlock,Exit.then];refine lh ⟨n+1,_,_,_,_,_,_,_,_,_,_,_,_,_,_,_,_,_,_,_,_,_,_,_,_,_,_,_,_,_,rfl,rfl,by omega,by omega⟩ ?_;simp [intOf];omega
  ·have hnc':n=cont l:=by
    rcases bq n (cont l)with h | h
    ·have:=Cb l n x HX.out h
     omega
    ·omega
   have HN:=V hnc';clear hnc';go_wp2;rw [iJ]
   go_ret2
   refine⟨?_,rfl⟩;have:=HN.out;have:=HQ.out;rw [eY,aC (by omega),aC (by omega),aC (by omega), <- HN.out]
   go_num
 ·intro H
  have Hh:=V H;clear H;go_wp2
  go_step3
  go_step
  go_step
  have e7:(bits+7 - 1)/7=(q:Int):=by have:=HQ.out;omega
  rw [e7];refine Hh.out _ _ ⟨0,_,_,_,_,_,_,_,_,_,_,_,_,_,_,_,_,_,_,_,_,_,_,_,_,_,_,_,_,_,rfl,rfl,by omega,by omega⟩
def Ha (l m:List UInt8) (w:World) (e:Ending) (w':World):Prop:=e= .returned (.bool (l==m))/\w=w'
theorem lK (a b:Value) (l m:List UInt8) (w:World) (ha:eI w a l) (hb:eI w b m):
  Calls prog 269 #[a,b] w (Ha l m w):=by
 have h1:=pB ha;have h2:=pB hb;clear ha hb;go_enter func269,ntmps269;go_wp2;go_ret;exact⟨by rw [ln,ln];rfl,rfl⟩
section
def nth {α:Type}:List α ->Nat ->Option α
 | [],_=>none
 | x::_,0=>some x
 | _::l,n+1=>nth l n
theorem nV {α:Type}:∀(l:List α) (n:Nat),nth l n=l[n]?
 | [],_=>by simp [nth]
 | x::l,0=>by simp [nth]
 | x::l,n+1=>by simp [nth,nV l n]
def isVal:Op ->Bool
 | .move _ | .assign _ | .pick .. | .binOp .. | .unOp .. | .convert .. | .slice .. | .fieldAddr .. | .field .. | .indexAddr .. | .index .. | .extract .. | .load .. | .makeInterface .. | .nilCheck _ | .build .. =>true
 | .call {callee:= .builtin .len, .. }=>true
 | _=>false
theorem mo {P:Program} {ρ:Operand ->Value} {o:Oper} (h:isVal o.op=true) (w:World):
  (∃v w',(execOp ρ o).run P w= .ok (.value v) w')\/(∃x w',(execOp ρ o).run P w= .halt x w'):=by
 have key:∀s:Sem Value,(∃v w',(do pure (Next.value (<- s)):Sem Next).run P w= .ok (.value v) w')\/(∃x w',(do pure (Next.value (<- s)):Sem Next).run P w= .halt x w'):=by
  intro s;rw [cM];cases hs:s.run P w with
  | ok v w'=>exact .inl ⟨v,w',by simp [cm]⟩
  | halt x w'=>exact .inr ⟨x,w',by simp⟩
 obtain⟨dst,op,type,pos,after,guard⟩:=o;cases op <;>simp only [isVal,cH]at h <;>simp only [execOp]
 all_goals first
  | exact key _
  | exact .inl ⟨_,_,by rw [cm]⟩
  | skip
 case pick c a b=>
  rw [cM];cases hs:(asBool (ρ c)).run P w with
  | ok v w'=>exact .inl ⟨_,w',by simp only [cC];rw [cm]⟩
  | halt x w'=>exact .inr ⟨x,w',by simp⟩
 case nilCheck x=>
  have hp:∃x w',(runtimePanic .nilDeref:Sem Next).run P w= .halt x w':=⟨_,w,by simp [runtimePanic,goPanic,go_sem];rfl⟩;cases ρ x with
  | pointer a=>cases a <;>first | exact .inr hp | exact .inl ⟨_,_,by rw [cm]⟩
  | nilIface=>exact .inr hp
  | nilFunc=>exact .inr hp
  | func fn first captured=>
   cases fn with
   | method name=>
    dsimp only;split
    ·exact .inr hp
    ·rename_i t v _
     rw [cM];cases hs:(program:Sem Program).run P w with
     | ok p w1=>
      simp only [cC];rw [cM];cases hs:(nilAhead (p.types.size+Made.depth) t v name).run P w1 with
      | ok r w2=>
       simp only [cC];split
       ·rw [cM]
        exact .inr ⟨_,_,rfl⟩
       ·exact .inl ⟨_,_,by simp only [cm];rfl⟩
      | halt x w2=>exact .inr ⟨x,w2,by simp⟩
     | halt x w1=>exact .inr ⟨x,w1,by simp⟩
    ·exact .inl ⟨_,_,by rw [cm]⟩
   | _=>exact .inl ⟨_,_,by rw [cm]⟩
  | _=>exact .inl ⟨_,_,by rw [cm]⟩
 case call c=>
  obtain⟨callee,args,ats⟩:=c;cases callee with
  | builtin b=>
   cases b <;>simp only [cH]at h;simp only [resolve,cM,cm,cC,invoke,builtin];cases hs:(Builtin.len_ ats type (args.map ρ)).run P w with
   | ok v w'=>exact .inl ⟨v,w',by simp⟩
   | halt x w'=>exact .inr ⟨x,w',by simp⟩
  | value f=>simp only [cH]at h
  | invoke r m=>simp only [cH]at h
def IP:List Value ->Nat ->Value
 | [],_=>undef
 | x::_,0=>x
 | _::l,n+1=>IP l n
def slot (a:Act) (i:Nat):Value:=IP a.tmps.toList i
def fr (l:List Value):Act:={tmps:=l.toArray,defers:=[]}
def gs (a:Act):Nat ->Nat ->List Value ->List Value
 | _,0,l=>l
 | i,n+1,l=>slot a i::gs a (i+1) n l
def ld (ops:List Oper) (g:Option (Nat × Bool)) (a:Act):Bool:=
 match g with
 | none=>true
 | some (j,want)=>match nth ops j with
  | some o=>match o.dst with
   | some d=>match nth a.tmps.toList d with
    | some (.bool b)=>b==want
    | _=>false
   | none=>false
  | none=>false
theorem me (ops:Array Oper) (o:Oper) (a:Act):Region.wanted o (yielded ops a.tmps)=ld ops.toList o.guard a:=by
 unfold Region.wanted ld;cases o.guard with
 | none=>rfl
 | some g=>
  obtain⟨j,want⟩:=g;simp only [yielded,nV,cE];cases ops[j]? with
  | none=>rfl
  | some o'=>
   simp only [aw];cases o'.dst with
   | none=>rfl
   | some d=>
    simp only [aw];cases a.tmps[d]? with
    | none=>rfl
    | some v=>cases v <;>rfl
def BC (a':Act) (w':World) (e:Exit) (a:Act) (w:World):Prop:=e= .normal/\a=a'/\w=w'
def nX (Q:Exit ->Act ->World ->Prop) (S:World ->Prop) (K:Act ->World ->Prop):Exit ->Act ->World ->Prop
 | .normal,a,w=>S w/\K a w
 | .panic _,_,_=>False
 | e,a,w=>Q e a w
def bare (o:Oper):Oper:={o with guard:=none,after:=#[]}
def iZ (P:Program) (ops:List Oper) (Q:Exit ->Act ->World ->Prop) (S:World ->Prop):List (Nat × Bool) ->Act ->World ->Prop
 | [],a,w=>Q .normal a w
 | (i,true)::rest,a,w=>∃o,nth ops i=some o/\
   ((ld ops o.guard a=true/\∃d,o.dst=some d/\d < a.tmps.size/\∃a',(∀w',S w' ->wpList P #[] (BC a' w') [bare o] a w')/\iZ P ops Q S rest a' w)\/
    (ld ops o.guard a=false/\iZ P ops Q S rest (a.put o.dst undef) w))
 | (i,false)::rest,a,w=>∃o,nth ops i=some o/\
   ((ld ops o.guard a=true/\wpList P #[] (nX Q S (iZ P ops Q S rest)) [bare o] a w)\/
    (ld ops o.guard a=false/\iZ P ops Q S rest (a.put o.dst undef) w))
def th (ops:Array Oper):List (Nat × Bool) ->Array Bool ->Bool
 | [],listed=>(Region.ready .any ops listed).isEmpty
 | (i,true)::rest,listed=>(ops[i]?.any fun o=>isVal o.op)&&(Region.ready .any ops listed).contains i&&Region.free .any ops listed i&&th ops rest (listed.setIfInBounds i true)
 | (i,false)::rest,listed=>(Region.ready .any ops listed==[i])&&th ops rest (listed.setIfInBounds i true)
theorem iL (ρ:Operand ->Value) (o:Oper):execOp ρ (bare o)=execOp ρ o:=rfl
theorem lW {P:Program} {Q:Exit ->Act ->World ->Prop} {o:Oper} {a:Act} {w:World} (h:wpList P #[] Q [bare o] a w):
  (bare o).wp P a w (Q .normal) Q\/((bare o).asks P a w/\LetsOut Q):=by
 unfold wpList at h;rw [aJ (by simp [Region.wanted,bare])]at h;exact h
theorem mO {P:Program} {ops:Array Oper} {Q:Exit ->Act ->World ->Prop} {S:World ->Prop} (hQ:∀c a w,¬ Q (.panic c) a w) (hs:Region.noSelect ops=true):
  ∀(l:List (Nat × Bool)) (fuel:Nat) (listed:Array Bool) (a:Act) (w:World),l.length <=fuel ->th ops l listed=true ->S w ->
   iZ P ops.toList Q S l a w ->wpAnyH P .any ops Q S fuel listed a w
 | [],fuel,listed,a,w,_,Kt,_,h=>by
  simp only [th,List.isEmpty_iff]at Kt;exact wpAnyH_done Kt h fuel
 | (i,true)::rest,0,_,_,_,hl,_,_,_=>by simp at hl
 | (i,false)::rest,0,_,_,_,hl,_,_,_=>by simp at hl
 | (i,true)::rest,fuel+1,listed,a,w,hl,Kt,hS,h=>by
  simp only [th,bN]at Kt;obtain⟨⟨⟨hv,hr⟩,hf⟩,Li⟩:=Kt;simp only [aI]at hl;obtain⟨o,ho,h⟩:=h;rw [nV,cE]at ho;rw [ho]at hv;simp only [Option.any_some]at hv;rcases h with⟨hg,d,hd,hds,a',hp,hk⟩ | ⟨hg,hk⟩
  ·refine wpAnyH_take (v:=a'.tmps.getD d undef) ho hs hf hr (fun c a w h=>(hQ _ _ _ h).elim) (.inl ⟨by rw [me];exact hg,fun w' hw'=>?_⟩) hS ?_
   ·rcases lW (hp w' hw')with h1 | ⟨_,h2⟩
    ·unfold Oper.wp at h1
     rw [iL]at h1;rcases mo (P:=P) (ρ:=a.eval) hv w' with⟨v,w2,Kx⟩ | ⟨x,w2,Kx⟩
     ·rw [Kx]at h1⊢
      obtain⟨_,h3,h4⟩:=h1;subst h4;subst h3;have:(bare o).dst=some d:=hd;rw [this];simp [Act.put,hds]
     ·rw [Kx]at h1
      cases x <;>simp only [Oper.upon]at h1
      case panic=>exact absurd h1.1 (by simp)
    ·obtain⟨_,_,h3,_⟩:=h2
     exact absurd h3 (by simp)
   ·have ha:a.put o.dst (a'.tmps.getD d undef)=a':=by
     rcases lW (hp w hS)with h1 | ⟨_,h2⟩
     ·unfold Oper.wp at h1
      rw [iL]at h1;rcases mo (P:=P) (ρ:=a.eval) hv w with⟨v,w2,Kx⟩ | ⟨x,w2,Kx⟩
      ·rw [Kx]at h1
       obtain⟨_,h3,h4⟩:=h1;have hd':(bare o).dst=some d:=hd;rw [<- h3,hd',hd];simp [Act.put,hds]
      ·rw [Kx]at h1
       cases x <;>simp only [Oper.upon]at h1
       case panic=>exact absurd h1.1 (by simp)
     ·obtain⟨_,_,h3,_⟩:=h2
      exact absurd h3 (by simp)
    rw [ha];exact mO hQ hs rest fuel _ _ _ (by omega) Li hS hk
  ·refine wpAnyH_take (v:=undef) ho hs hf hr (fun c a w h=>(hQ _ _ _ h).elim) (.inr ⟨by rw [me];exact hg,rfl⟩) hS ?_
   exact mO hQ hs rest fuel _ _ _ (by omega) Li hS hk
 | (i,false)::rest,fuel+1,listed,a,w,hl,Kt,hS,h=>by
  simp only [th,bN,dC]at Kt;obtain⟨hr,Li⟩:=Kt;simp only [aI]at hl;obtain⟨o,ho,h⟩:=h;rw [nV,cE]at ho;refine wpAnyH_all hr (by simp) fun j hj=>?_;obtain rfl:j=i:=by simpa using hj
  unfold wpOp;simp only [ho];rw [me];rcases h with⟨hg,hw⟩ | ⟨hg,hk⟩
  ·rw [aJ hg]
   have LK:∀a' w',nX Q S (iZ P ops.toList Q S rest) .normal a' w' ->S w'/\wpAnyH P .any ops Q S fuel (listed.setIfInBounds j true) a' w':=
    fun a' w' h=>⟨h.1,mO hQ hs rest fuel _ _ _ (by omega) Li h.1 h.2⟩
   have NU:LetsOut (nX Q S (iZ P ops.toList Q S rest)) ->LetsOut Q:=fun⟨a,w,h⟩=>⟨a,w,h⟩;rcases lW hw with h1 | ⟨h1,h2⟩
   ·left
    unfold Oper.wp at h1⊢;rw [iL]at h1;generalize(execOp a.eval o).run P w=r at*;cases r with
    | ok n w'=>
     cases n <;>simp only [Oper.upon]at h1⊢
     case value=>exact LK _ _ h1
     case skip=>exact LK _ _ h1
     case defer=>exact LK _ _ h1
     case enter=>
      refine bT h1 fun e w'' he=>?_;cases e with
      | returned v=>exact LK _ _ he
      | panicked c=>exact he.elim
      | outgrown=>exact NU he
     case row=>exact Rows.mono h1 fun v w'' he=>LK _ _ he
    | halt x w'=>
     cases x <;>simp only [Oper.upon]at h1⊢
     case panic=>exact h1.elim
   ·exact .inr ⟨h1,NU h2⟩
  ·rw [aC (by rw [hg];simp)]
   exact⟨hS,mO hQ hs rest fuel _ _ _ (by omega) Li hS hk⟩
theorem ed {P:Program} {ops:List Oper} {Q:Exit ->Act ->World ->Prop} {id:Nat} {a:Act} {w:World} (S:World ->Prop) (l:List (Nat × Bool)) (hm:P.follows .mixedOrders=true)
  (Kt:(th ops.toArray l (Array.replicate ops.length false)&&Region.noSelect ops.toArray&&decide (l.length <=ops.length))=true) (hS:S w.drew)
  (h:iZ P ops (NoPanic Q) S l a w.drew):(Code.region id ops.toArray true).wp P Q a w:=by
 simp only [bN,dj]at Kt;obtain⟨⟨Kt,hn⟩,hl⟩:=Kt;refine wp_region_noPanic (wp_region_held (S:=S) hm ?_);refine mO (S:=S) (fun c a w h=>h) hn l _ _ a _ ?_ ?_ hS ?_
 ·simpa using hl
 ·simpa using Kt
 ·simpa using h
section
variable {P:Program} {ops:List Oper} {Q:Exit ->Act ->World ->Prop} {S:World ->Prop} {i:Nat} {rest:List (Nat × Bool)} {a:Act} {w:World} {d:Tmp} {op:Op} {t:TypeId} {p:String} {af:Array Edge} {g:Option (Nat × Bool)}
theorem ez {c:Code} (J:Act ->World ->Prop) (μ:Act ->World ->Nat) (h0:J a w)
  (round:∀(R:Act ->World ->Prop) a w,J a w ->Hid (∀a' w',J a' w' ->μ a' w' < μ a w ->R a' w') ->c.wp P (Exit.then R Q) a w):(Code.loop c).wp P Q a w:=
 wp_loop J μ h0 fun a w hJ=>round _ a w hJ (fun _ _ h1 h2=>⟨h1,h2⟩)
theorem Cz {c:Code} {K:Act ->World ->Prop} {id:Nat} (J:Act ->World ->Prop) (μ:Act ->World ->Nat) (X:Act ->World ->Prop) (h0:J a w)
  (round:∀(R Y:Act ->World ->Prop) a w,J a w ->Hid (∀a' w',J a' w' ->μ a' w' < μ a w ->R a' w') ->Hid (∀a w,X a w ->Y a w) ->c.wp P (Exit.then R (Exit.inBlock id (Exit.then Y Q))) a w)
  (hX:∀a w,X a w ->K a w):(Code.loop c).wp P (Exit.inBlock id (Exit.then K Q)) a w:=
 ez J μ h0 fun R a w hJ hR=>round R K a w hJ hR hX
theorem wp_cut {c:Code} (K:Act ->World ->Prop) (h1:c.wp P (fun e a w=>e= .normal/\K a w) a w) (h2:∀a w,K a w ->Q .normal a w):c.wp P Q a w:=
 Code.wp_mono (fun e a w h=>by rw [h.1];exact h2 a w h.2) h1
theorem dT (hi:nth ops i=some ⟨some d,op,t,p,af,g⟩) (hg:ld ops g a=true) (hd:Nat.ble (d+1) a.tmps.size=true) {a':Act} (hp:∀w',S w' ->wpList P #[] (BC a' w') [⟨some d,op,t,p,#[],none⟩] a w')
  (h:iZ P ops Q S rest a' w):iZ P ops Q S ((i,true)::rest) a w:=
 ⟨_,hi, .inl ⟨hg,d,rfl,Nat.le_of_ble_eq_true hd,a',hp,h⟩⟩
theorem DD {b:Bool} {dst:Option Tmp} (hi:nth ops i=some ⟨dst,op,t,p,af,g⟩) (hg:ld ops g a=false) (h:iZ P ops Q S rest (a.put dst undef) w):iZ P ops Q S ((i,b)::rest) a w:=by
 cases b
 ·exact⟨_,hi, .inr ⟨hg,h⟩⟩
 ·exact⟨_,hi, .inr ⟨hg,h⟩⟩
theorem dZ {dst:Option Tmp} (hi:nth ops i=some ⟨dst,op,t,p,af,g⟩) (hg:ld ops g a=true) (h:wpList P #[] (nX Q S (iZ P ops Q S rest)) [⟨dst,op,t,p,#[],none⟩] a w):iZ P ops Q S ((i,false)::rest) a w:=
 ⟨_,hi, .inl ⟨hg,h⟩⟩
def up:Nat ->Nat ->List (Nat × Bool) ->List (Nat × Bool)
 | _,0,l=>l
 | i,n+1,l=>(i,true)::up (i+1) n l
theorem eH (h:Q .normal a w):iZ P ops Q S [] a w:=h
def pt:List Value ->Option Tmp ->List Value
 | l,none=>l
 | [],_=>[]
 | _::l,some 0=>undef::l
 | x::l,some (n+1)=>x::pt l (some n)
theorem Im (l:List Value) (n:Nat):pt l (some n)=l.set n undef:=by
 induction l generalizing n with
 | nil=>cases n <;>rfl
 | cons x l ih=>cases n with
  | zero=>rfl
  | succ n=>simp [pt,ih]
theorem Iy (l:List Value) (d:Option Tmp):Act.put {tmps:=l.toArray,defers:=[]} d undef={tmps:=(pt l d).toArray,defers:=[]}:=by
 cases d with
 | none=>cases l <;>rfl
 | some n=>rw [Im];simp [Act.put]
theorem sk {b:Bool} {dst:Option Tmp} {l:List Value} (hi:nth ops i=some ⟨dst,op,t,p,af,g⟩) (hg:ld ops g {tmps:=l.toArray,defers:=[]}=false) (h:iZ P ops Q S rest {tmps:=(pt l dst).toArray,defers:=[]} w):iZ P ops Q S ((i,b)::rest) {tmps:=l.toArray,defers:=[]} w:=
 DD hi hg (by rw [Iy];exact h)
end
end
end Go.Proofs.YthbjdhjppbcneaaGreatDoor
