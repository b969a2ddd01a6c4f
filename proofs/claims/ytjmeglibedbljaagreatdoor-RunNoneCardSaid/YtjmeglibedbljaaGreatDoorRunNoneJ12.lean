import Derived.Test.YtjmeglibedbljaaGreatDoorRunNoneJ11
import Derived.Laws.EntriesVeiled
namespace Go.Proofs.YtjmeglibedbljaaGreatDoor
set_option maxRecDepth 100000
set_option maxHeartbeats 20000000
open Go.RowKit Tryz
open Lib renaming hid->V
set_option linter.all false
section
def sy (o:gT) (vv:Value) (n calls:Int) (mk:Int × Int):List Value:=[.int .i64 o.kind, .int .i64 o.ky, .int .i64 o.fn,vv, .complex .f64 (fl n) (fl 0), .int .i64 calls, .complex .f64 (fl mk.1) (fl mk.2)]
structure yD where
 o:gT
 n:Int
 calls:Int
 GM:Int × Int
structure jc (w:World) (F FX:Nat ->Bool) (X b:Nat) (iv:ly) (m:eu) (q:yD) (s:fy):Prop where
 run:∃a c,iE w F FX X b iv m [.pointer (some ⟨X,0,none⟩)] (sy q.o (.slice a q.o.dX.length c) q.n q.calls q.GM) 81 s/\dS 52 2 fD w 0 (.slice a q.o.dX.length c) q.o.dX/\F b=false
 KI:q.o.dX.length <=1000
 bc:0 <=q.calls/\q.calls <=1000000
 bn:0 <=q.n/\q.n <=1000000
 bm:0 <=q.GM.1/\q.GM.1 < 1000003/\0 <=q.GM.2/\q.GM.2 < 1000003
theorem fM.oG {w:World} {b:Nat} {pre post post':List Value} {t:TypeId} {v:rI} {s:fy} (h:fM w b pre post t v s) (k:Nat) (x:Value) (he:(fY pre v s.asks post).setIfInBounds k x=fY pre v s.asks post'):fM (w.setCell ⟨b,k,none⟩ x) b pre post' t v s:=by
 have Lx:=ei w b k x;refine⟨?_,h.dX.keeps Lx (fun g hg e=>h.By h.dX (.inl rfl) (e▸hg)),h.eg.keeps Lx (fun g hg e=>h.By h.eg (.inr (.inl rfl)) (e▸hg)),h.rows.to (fun f u _ h3=>h3.keeps Lx (fun g hg e=>?_)),h.JJ,h.apart,h.ty⟩
 ·have:=h.jq.set k x
  rw [he]at this;exact this
 ·subst e
  rcases hg with hg | hg
  ·exact h.By h3.1 (.inl rfl) hg
  ·exact h.By h3.2 (.inr (.inr rfl)) hg
theorem Ib (p uv uf:Value) (us:List (Value × Value)) (n:Int) (post:List Value) (k:Nat) (x:Value):(fY [p] ⟨uv,uf,us⟩ n post).setIfInBounds (4+k) x=fY [p] ⟨uv,uf,us⟩ n (post.set k x):=by
 simp only [fY,aW]
 congr 1
 rw [show 4+k=k+4 by omega];rfl
theorem iE.oG {w:World} {F FX:Nat ->Bool} {X b:Nat} {iv:ly} {m:eu} {p:Value} {post:List Value} {t:TypeId} {s:fy} (h:iE w F FX X b iv m [p] post t s) (hF:F b=false) (k:Nat) (x:Value):iE (w.setCell ⟨b,4+k,none⟩ x) F FX X b iv m [p] (post.set k x) t s:=by
 obtain⟨v,h1,h2⟩:=h.st;have Lx:=ei w b (4+k) x;refine⟨⟨v,h1.oG (4+k) x (by obtain⟨uv,uf,us⟩:=v;exact Ib _ _ _ _ _ _ _ _),h2⟩,h.inst.keeps Lx (fun g hg=>by rw [hg];exact h.fx b hF),h.sub,fun g hg=>bo (h.lt g hg) Lx.size⟩
theorem iE.pw {w:World} {F FX:Nat ->Bool} {X b:Nat} {iv:ly} {m:eu} {p:Value} {post:List Value} {t:TypeId} {s:fy} (h:iE w F FX X b iv m [p] post t s):w.cell? ⟨b,0,none⟩=some p/\∀k,w.cell? ⟨b,4+k,none⟩=post[k]?:=by
 obtain⟨v,h1,-⟩:=h.st;refine⟨h1.jq.cell 0,fun k=>(h1.jq.cell (4+k)).trans ?_⟩;simp only [fY,aM];rw [show 4+k=k+4 by omega];rfl
theorem iE.xm {w:World} {F FX:Nat ->Bool} {X b:Nat} {iv:ly} {m:eu} {p:Value} {post:List Value} {t:TypeId} {s:fy} (h:iE w F FX X b iv m [p] post t s) (k:Nat):w.frozen? ⟨b,k,none⟩=false:=by
 obtain⟨v,h1,-⟩:=h.st;exact h1.jq.free k
section
variable {w w':World} {F FX:Nat ->Bool} {X b:Nat} {iv:ly} {m:eu} {q:yD} {s:fy}
theorem jc.below (h:jc w F FX X b iv m q s) (hb:Below w.heap.size w w'):jc w' F FX X b iv m q s:=by
 obtain⟨a,c,h1,h2,h3⟩:=h.run;exact⟨⟨a,c,h1.below hb,h2.below hb,h3⟩,h.KI,h.bc,h.bn,h.bm⟩
theorem jc.add (h:jc w F FX X b iv m q s) (hb:Below w.heap.size w w') (Y:Nat) (h1:w.heap.size <=Y) (h2:Y < w'.heap.size):jc w' (fun g=>F g || decide (g=Y)) FX X b iv m q s:=by
 obtain⟨a,c,h3,h4,h5⟩:=h.run;refine⟨⟨a,c,h3.add hb Y h1 h2,h4.below hb,?_⟩,h.KI,h.bc,h.bn,h.bm⟩;obtain⟨v,h6,-⟩:=h3.st;have:=h6.jq.lt;have MO:b≠Y:=by omega
 simp [h5,MO]
theorem jc.cells (h:jc w F FX X b iv m q s):∃a c,(w.cell? ⟨b,0,none⟩=some (.pointer (some ⟨X,0,none⟩))/\w.cell? ⟨b,4,none⟩=some (.int .i64 q.o.kind)/\w.cell? ⟨b,5,none⟩=some (.int .i64 q.o.ky)/\w.cell? ⟨b,6,none⟩=some (.int .i64 q.o.fn)/\
  w.cell? ⟨b,7,none⟩=some (.slice a q.o.dX.length c)/\w.cell? ⟨b,8,none⟩=some (.complex .f64 (fl q.n) (fl 0))/\w.cell? ⟨b,9,none⟩=some (.int .i64 q.calls)/\w.cell? ⟨b,10,none⟩=some (.complex .f64 (fl q.GM.1) (fl q.GM.2)))/\
  ee 2 fD w (.slice a q.o.dX.length c) q.o.dX/\∀k,w.frozen? ⟨b,k,none⟩=false:=by
 obtain⟨a,c,h1,h2,-⟩:=h.run;obtain⟨h3,h4⟩:=h1.pw;exact⟨a,c,⟨h3,h4 0,h4 1,h4 2,h4 3,h4 4,h4 5,h4 6⟩,h2.fH fI,h1.xm⟩
end
theorem FP {w:World} {a:Addr} {v:Value} {k:FloatKind} {x y:Nat} (h:w.cell? a=some v) (hz:w.frozen? a=false):(store a (.complex k x y)).run prog w= .ok () (w.setCell a (.complex k x y)):=by
 rw [run_store _ _ _ _ _ rfl,h,hz];rfl
def sJ (w:World) (b:Nat) (o:gT) (v:Value):World:=(((w.setCell ⟨b,4,none⟩ (.int .i64 o.kind)).setCell ⟨b,5,none⟩ (.int .i64 o.ky)).setCell ⟨b,6,none⟩ (.int .i64 o.fn)).setCell ⟨b,7,none⟩ v
theorem oP (w:World) (b:Nat) (o:gT) (v:Value):dU (fun i=>i=b) w (sJ w b o v):=
 (((ei w b 4 _).trans (ei _ b 5 _) (fun _ h=> .inl h)).trans (ei _ b 6 _) (fun _ h=> .inl h)).trans (ei _ b 7 _) (fun _ h=> .inl h)
theorem iE.sJ {w:World} {F FX:Nat ->Bool} {X b:Nat} {iv:ly} {m:eu} {p:Value} {t:TypeId} {s:fy} {o:gT} {v:Value} {n c:Int} {mk:Int × Int} (h:iE w F FX X b iv m [p] (sy o v n c mk) t s) (hF:F b=false) (o':gT) (v':Value):
  iE (sJ w b o' v') F FX X b iv m [p] (sy o' v' n c mk) t s:=(((h.oG hF 0 (.int .i64 o'.kind)).oG hF 1 (.int .i64 o'.ky)).oG hF 2 (.int .i64 o'.fn)).oG hF 3 v'
theorem iE.J0 {w:World} {F FX:Nat ->Bool} {X b:Nat} {iv:ly} {m:eu} {pre post:List Value} {t:TypeId} {s:fy} (h:iE w F FX X b iv m pre post t s) {B:Nat} {v:Value} {l:List eX} (ho:dS 52 2 fD w B v l):¬ ez v b:=by
 obtain⟨u,h1,-⟩:=h.st;exact h1.By ho (.inl rfl)
theorem iE.Kh {w:World} {F FX:Nat ->Bool} {X b:Nat} {iv:ly} {m:eu} {p v:Value} {t:TypeId} {s:fy} {o:gT} {n c:Int} {mk:Int × Int} (h:iE w F FX X b iv m [p] (sy o v n c mk) t s):
  (w.cell? ⟨b,4,none⟩=some (.int .i64 o.kind)/\w.cell? ⟨b,5,none⟩=some (.int .i64 o.ky)/\w.cell? ⟨b,6,none⟩=some (.int .i64 o.fn)/\w.cell? ⟨b,7,none⟩=some v)/\w.frozen? ⟨b,4,none⟩=false/\w.frozen? ⟨b,5,none⟩=false/\w.frozen? ⟨b,6,none⟩=false/\w.frozen? ⟨b,7,none⟩=false:=
 ⟨⟨h.pw.2 0,h.pw.2 1,h.pw.2 2,h.pw.2 3⟩,h.xm 4,h.xm 5,h.xm 6,h.xm 7⟩
theorem jc.of {w:World} {F FX:Nat ->Bool} {X b:Nat} {iv:ly} {m:eu} {s:fy} {o o':gT} {v:Value} {a:Option Addr} {c' B:Nat} {n c:Int} {mk:Int × Int} (h:iE w F FX X b iv m [.pointer (some ⟨X,0,none⟩)] (sy o v n c mk) 81 s) (hF:F b=false)
  (ho:dS 52 2 fD w B (.slice a o'.dX.length c') o'.dX) (hl:o'.dX.length <=1000) (bc:0 <=c/\c <=1000000) (bn:0 <=n/\n <=1000000) (bm:0 <=mk.1/\mk.1 < 1000003/\0 <=mk.2/\mk.2 < 1000003):
  jc (Go.Proofs.YtjmeglibedbljaaGreatDoor.sJ w b o' (.slice a o'.dX.length c')) F FX X b iv m ⟨o',n,c,mk⟩ s:=
 ⟨⟨a,c',h.sJ hF _ _,(ho.lower (bB _)).keeps (oP w b _ _) (fun _ hg e=>h.J0 ho (e▸hg)),hF⟩,hl,bc,bn,bm⟩
def sB (w:World) (b:Nat):World:=((w.setCell ⟨b,1,none⟩ (.slice none 0 0)).setCell ⟨b,2,none⟩ (.slice none 0 0)).setCell ⟨b,3,none⟩ (.int .i64 (-1))
theorem oU (w:World) (b:Nat):dU (fun i=>i=b) w (sB w b):=
 ((ei w b 1 _).trans (ei _ b 2 _) (fun _ h=> .inl h)).trans (ei _ b 3 _) (fun _ h=> .inl h)
theorem iE.sB {w:World} {F FX:Nat ->Bool} {X b:Nat} {iv:ly} {m:eu} {p:Value} {post:List Value} {t:TypeId} {s:fy} (h:iE w F FX X b iv m [p] post t s) (hF:F b=false):iE (sB w b) F FX X b iv m [p] post t ⟨[],[],-1⟩:=by
 obtain⟨v,h1,h2⟩:=h.st;have Lx:=oU w b;refine⟨⟨⟨.slice none 0 0, .slice none 0 0,[]⟩,⟨?_,dS.nil _ _,dS.nil _ _,trivial,by simp,List.Pairwise.nil,h1.ty⟩,fun g hg=>?_⟩,h.inst.keeps Lx (fun g hg=>by rw [hg];exact h.fx b hF),h.sub,fun g hg=>bo (h.lt g hg) Lx.size⟩
 ·have:=((h1.jq.set 1 (.slice none 0 0)).set 2 (.slice none 0 0)).set 3 (.int .i64 (-1))
  unfold Go.Proofs.YtjmeglibedbljaaGreatDoor.sB;simpa [fY] using this
 ·rcases hg with rfl | hg | hg | ⟨u,hu,-⟩
  ·exact hF
  ·cases hg
  ·cases hg
  ·cases hu
def vu (X:Nat):Array Value:=#[.pointer (some ⟨X,0,none⟩), .slice none 0 0, .slice none 0 0, .int .i64 (-1), .int .i64 0, .int .i64 0, .int .i64 0, .slice none 0 0, .complex .f64 0 0, .int .i64 0, .complex .f64 0 0]
theorem jc.new {w:World} {FX:Nat ->Bool} {X:Nat} {iv:ly} {m:eu} (h:iw w FX X iv m):
  jc (w.alloc (.cells (vu X) 81)) (fun g=>decide (g < w.heap.size)) FX X w.heap.size iv m ⟨⟨0,0,0,[]⟩,0,0,(0,0)⟩ ⟨[],[],-1⟩:=by
 have hb:=(an w.heap.size w).alloc (ag _) (.cells (vu X) 81);refine⟨⟨none,0,⟨⟨⟨.slice none 0 0, .slice none 0 0,[]⟩,⟨?_,dS.nil _ _,dS.nil _ _,trivial,by simp,List.Pairwise.nil,by decide⟩,fun g hg=>?_⟩,h.below hb,fun g hg=>by simp [h.lt g hg],fun g hg=>?_⟩,dS.nil _ _,by simp⟩,by decide,by decide,by decide,by decide⟩
 ·have:=eD.new w (vu X) 81
  unfold sy;rw [oz];exact this
 ·rcases hg with rfl | hg | hg | ⟨u,hu,-⟩
  ·simp
  ·cases hg
  ·cases hg
  ·cases hu
 ·simp only [cW]at hg
  rw [aC];omega
theorem jc.other {w w':World} {F FX:Nat ->Bool} {X b:Nat} {iv:ly} {m:eu} {q:yD} {s:fy} (h:jc w F FX X b iv m q s) {Y:Nat} {xs:Array Value} {t:TypeId} (hY:eD w Y xs t) (ht:52≠t) (hk:dU (fun i=>i=Y) w w') (hF:F Y=true) (hX:FX Y=false):jc w' F FX X b iv m q s:=by
 obtain⟨a,c,h1,h2,h3⟩:=h.run;exact⟨⟨a,c,h1.keeps hk (fun g hg=>by rw [hg];exact⟨hX, .inl hF⟩),h2.keeps hk (fun g hg e=>dS.fV h2 hY ht g hg e),h3⟩,h.KI,h.bc,h.bn,h.bm⟩
end
theorem tP (x:fN) (w:World):Calls prog 76 #[.agg #[.bool x.has, .int .i64 x.min, .int .i64 x.max]] w (ew (mc x) w):=by
 obtain⟨has,mn,mx⟩:=x;have HB:=V ((an w.heap.size w).alloc (ag _) (.cells #[.bool has, .int .i64 mn, .int .i64 mx] 28));cases has
 ·go_enter func76,ntmps76
  go_wp2;go_ret;exact⟨rfl,HB.out⟩
 by_cases q:0 <=mx
 ·have f1:decide (0 <=mx)=true:=ay q
  have HT:Hid (mc ⟨true,mn,mx⟩=decide (mx < mn)):=V (by unfold mc;simp [q]);clear q;go_enter func76,ntmps76;go_wp2;go_ret;exact⟨by rw [HT.out];rfl,HB.out⟩
 ·have f1:decide (0 <=mx)=false:=aw q
  have HT:Hid (mc ⟨true,mn,mx⟩=false):=V (by unfold mc;simp [q]);clear q;go_enter func76,ntmps76;go_wp2;go_ret;exact⟨by rw [HT.out];rfl,HB.out⟩
theorem uZ (m:eu) (M:Nat) (a:Option Addr) (cap:Nat) (t:Int) (w:World) (h:w.cell? ⟨M,0,none⟩=some (.slice a m.types.length cap)):
  Calls prog 68 #[.int .i64 t, .pointer (some ⟨M,0,none⟩)] w (ew (mZ m t) w):=by
 go_enter func68,ntmps68;go_wp2;go_ret;exact⟨rfl,an _ _⟩
theorem uK (m:eu) (M:Nat) (a a':Option Addr) (cap LQ:Nat) (f:Int) (w:World) (h:w.cell? ⟨M,1,none⟩=some (.slice a m.imports.length cap)) (h':w.cell? ⟨M,2,none⟩=some (.slice a' m.funcs.length LQ)) (hs:m.imports.length+m.funcs.length <=1000000):
  Calls prog 69 #[.int .i64 f, .pointer (some ⟨M,0,none⟩)] w (ew (ln m f) w):=by
 go_enter func69,ntmps69;go_wp2;go_ret;exact⟨rfl,an _ _⟩
theorem xJ (x y:iU) (X:Nat) (w:World) (h:w.cell? ⟨X,0,none⟩=some (.string x.name)):
  Calls prog 71 #[.agg #[.string y.name, .int .i64 y.func], .pointer (some ⟨X,0,none⟩)] w (ew (x.name.toList==y.name.toList) w):=by
 have HB:=V ((an w.heap.size w).alloc (ag _) (.cells #[.string y.name, .int .i64 y.func] 75));have h:=(Ext.dW HB.out).1 _ _ h;go_enter func71,ntmps71;go_wp2;go_ret;exact⟨rfl,HB.out⟩
theorem AM (m:eu) (M X:Nat) (x:jD) (w:World) (a:Option Addr) (cap:Nat) (h:w.cell? ⟨M,0,none⟩=some (.slice a m.types.length cap)) (hX:w.cell? ⟨X,0,none⟩=some (.func (.func 68) #[] #[.pointer (some ⟨M,0,none⟩)])):
  Calls prog 74 #[.agg #[.string x.mod, .string x.name, .int .i64 x.type], .pointer (some ⟨X,0,none⟩)] w (ew (mZ m x.type) w):=by
 have HB:=V ((an w.heap.size w).alloc (ag _) (.cells #[.string x.mod, .string x.name, .int .i64 x.type] 71));have H:=V ((Ext.dW HB.out).1 _ _ h);have hX:=(Ext.dW HB.out).1 _ _ hX;clear h;go_enter func74,ntmps74;go_wp2_with fail;refine(uZ m M a cap x.type _ H.out).mono ?_;rintro e w2 ⟨rfl,hb⟩;have HB:=V (HB.out.trans (hb.mono HB.out.size));clear hb hX;go_wp2;go_ret;exact⟨rfl,HB.out⟩
theorem pT (m:eu) (M X:Nat) (x:jh) (u:Value) (w:World) (a a':Option Addr) (cap LQ:Nat) (h:w.cell? ⟨M,1,none⟩=some (.slice a m.imports.length cap)) (h':w.cell? ⟨M,2,none⟩=some (.slice a' m.funcs.length LQ)) (hs:m.imports.length+m.funcs.length <=1000000) (hX:w.cell? ⟨X,0,none⟩=some (.func (.func 69) #[] #[.pointer (some ⟨M,0,none⟩)])) (hu:gQ w x u):
  Calls prog 78 #[.agg #[.int .i64 x.off,u], .pointer (some ⟨X,0,none⟩)] w (ew (x.funcs.any fun f=>ln m f) w):=by
 obtain⟨au,cu,rfl,-,-⟩:=fk hu.1;have HU:=V hu.1;have HB:=V ((an w.heap.size w).alloc (ag _) (.cells #[.int .i64 x.off, .slice au x.funcs.length cu] 77));have H:=V ((Ext.dW HB.out).1 _ _ h);have H':=V ((Ext.dW HB.out).1 _ _ h');have hX:=(Ext.dW HB.out).1 _ _ hX;clear h h' hu;go_enter func78,ntmps78;go_wp2_with fail;refine(qt (fun f=>ln m f) _ x.funcs _ (HU.out.below HB.out) 69 #[.pointer (some ⟨M,0,none⟩)] (fun _ _=>by rfl) (fun e _ w' hb=>uK m M a a' cap LQ e w' ((Ext.dW hb).1 _ _ H.out) ((Ext.dW hb).1 _ _ H'.out) hs)).mono ?_;rintro e w2 ⟨rfl,hb⟩;have HB:=V (HB.out.trans (hb.mono HB.out.size));clear hb hX;go_wp2;go_ret;exact⟨rfl,HB.out⟩
def oN (w1:World) (C:Nat) (u:eE) (m:eu) (lv:Value) (ls:List Int):Prop:=eo (rZ C w1) u m/\ee 1 eU (rZ C w1) lv ls
theorem fU.ext {w1 w:World} {C:Nat} {u:eE} {m:eu} {lv:Value} {c:eH} (h:fU w1 C u m lv w c):Ext (rZ C w1) (rZ C w):=pM h.old
theorem fU.ext' {w1 w:World} {C:Nat} {u:eE} {m:eu} {lv:Value} {c:eH} (h:fU w1 C u m lv w c):Ext (rZ C w1) w:=tk h.old
theorem fU.cell {w1 w:World} {C:Nat} {u:eE} {m:eu} {lv:Value} {c:eH} (h:fU w1 C u m lv w c):w.cell? ⟨C,0,none⟩=some u.types/\w.cell? ⟨C,1,none⟩=some u.imports/\w.cell? ⟨C,2,none⟩=some u.funcs/\w.cell? ⟨C,3,none⟩=some (.bool m.table.has)/\w.cell? ⟨C,6,none⟩=some (.bool m.mem.has)/\w.cell? ⟨C,9,none⟩=some u.globals/\w.cell? ⟨C,14,none⟩=some lv/\w.cell? ⟨C,17,none⟩=some (.bool c.bad)/\w.frozen? ⟨C,17,none⟩=false:=by
 obtain⟨v,v',hb,-,-,-,-⟩:=h;exact⟨hb.cell 0,hb.cell 1,hb.cell 2,hb.cell 3,hb.cell 6,hb.cell 9,hb.cell 14,hb.cell 17,hb.free 17⟩
theorem fU.fail {w1 w:World} {C:Nat} {u:eE} {m:eu} {lv:Value} {c:eH} (h:fU w1 C u m lv w c):fU w1 C u m lv (w.setCell ⟨C,17,none⟩ (.bool true)) {c with bad:=true}:=by
 obtain⟨v,v',hb,hv,hc,hk,hC⟩:=h;have Lx:=ei w C 17 (.bool true);exact⟨v,v',hb.set 17 _,hv.keeps Lx (fun i hi h=>by have:=(ey hv hi).1;omega),hc.keeps Lx (fun i hi h=>by have:=(ey hc hi).1;omega),hk.trans Lx (fun _ h=> .inl h),hC⟩
def Jk (w1:World) (C:Nat) (t:gw × Bool) (w:World) (e:Ending) (w':World):Prop:=
 ∃v1 v2,e= .returned (.tuple #[.agg #[v1,v2], .bool t.2])/\ee 1 eU (rZ C w1) v1 t.1.params/\ee 1 eU (rZ C w1) v2 t.1.results/\Below w.heap.size w w'
theorem nX (w1:World) (C:Nat) (u:eE) (m:eu) (lv:Value) (ls:List Int) (w:World) (c:eH) (t:Int) (h:fU w1 C u m lv w c) (hr:oN w1 C u m lv ls):
  Calls prog 114 #[.pointer (some ⟨C,0,none⟩), .int .i64 t] w (Jk w1 C (typeOf m t) w):=by
 have HX:=V (eD.new w #[.slice none 0 0, .slice none 0 0] 69);have HB:=V ((an w.heap.size w).alloc (ag _) (.cells #[.slice none 0 0, .slice none 0 0] 69));have LD:=h.lt;have H:=V (h.alloc (.cells #[.slice none 0 0, .slice none 0 0] 69));obtain⟨a0,c0,a1,c1,a2,c2,a3,c3,a4,c4,a5,c5,a6,c6,a7,c7,rfl⟩:=eo.open hr.1;have g0:=H.out.cell.1;obtain⟨x0,x1,z0,z1⟩:=HX.out.two;clear h;by_cases q1:t < 0
 ·have f1:decide (t < 0)=true:=ay q1
  have HT:Hid (typeOf m t=(⟨[],[]⟩,false)):=V (by unfold typeOf;rw [if_pos (.inl q1)]);clear q1;go_enter func114,ntmps114;go_wp2_with fail;refine aF (eY rfl _ _ rfl HX.out.kr) rfl ?_;rw [HT.out];exact⟨_,_,rfl,ee.nil _,ee.nil _,HB.out⟩
 obtain⟨k,rfl⟩:∃k:Nat,t=k:=⟨t.toNat,by omega⟩;have f1:decide ((k:Int) < 0)=false:=aw q1;by_cases q2:m.types.length <=k
 ·have f2:decide ((m.types.length:Int) <=(k:Int))=true:=ay (by omega)
  have f3:decide (m.types.length <=k)=true:=ay q2;have HT:Hid (typeOf m k=(⟨[],[]⟩,false)):=V (by unfold typeOf;rw [if_pos (.inr (by omega))]);clear q1 q2;go_enter func114,ntmps114;go_wp2_with fail;refine aF (eY rfl _ _ rfl HX.out.kr) rfl ?_;rw [HT.out];exact⟨_,_,rfl,ee.nil _,ee.nil _,HB.out⟩
 ·have f2:decide ((m.types.length:Int) <=(k:Int))=false:=aw (by omega)
  have f3:decide (m.types.length <=k)=false:=aw q2;have hk:k < m.types.length:=by omega
  obtain⟨e,he⟩:∃e,m.types[k]?=some e:=⟨_,aq hk⟩;have HT:Hid (typeOf m k=(e,true)):=V (by unfold typeOf;rw [if_neg (by omega),Int.toNat_natCast,he];rfl);obtain⟨b,off,v,rfl,-,LM,Ml⟩:=ef.get hr.1.1 he;have y0:=H.out.ext'.1 _ _ (LM 0 _ rfl);have y1:=H.out.ext'.1 _ _ (LM 1 _ rfl);rw [aI]at y0;obtain⟨v1,v2⟩:=v;obtain⟨⟨b1,k1,e1,-,-,-⟩,⟨b2,k2,e2,-,-,-⟩⟩:=id Ml.1;simp only at e1 e2;subst e1 e2;have L9:=V Ml;clear q1 q2 LM Ml he;go_enter func114,ntmps114;go_wp2_with fail;have hx:=eD.new w #[.slice b1 e.params.length k1, .slice b2 e.results.length k2] 69;have Lw:=(an w.heap.size w).alloc (ag _) (.cells #[.slice b1 e.params.length k1, .slice b2 e.results.length k2] 69);refine aF (eY rfl _ _ rfl hx.kr) rfl ?_;rw [HT.out];exact⟨_,_,rfl,L9.out.1.1,L9.out.1.2,Lw⟩
theorem vT (w1:World) (C:Nat) (u:eE) (m:eu) (lv:Value) (ls:List Int) (w:World) (c:eH) (f:Nat) (hf:f <=100000) (h:fU w1 C u m lv w c) (hr:oN w1 C u m lv ls):
  Calls prog 199 #[.pointer (some ⟨C,0,none⟩), .int .i64 f] w (Jk w1 C (gm m f) w):=by
 have HX:=V (eD.new w #[.slice none 0 0, .slice none 0 0] 69);have HB:=V ((an w.heap.size w).alloc (ag _) (.cells #[.slice none 0 0, .slice none 0 0] 69));have H:=V (h.alloc (.cells #[.slice none 0 0, .slice none 0 0] 69));obtain⟨a0,c0,a1,c1,a2,c2,a3,c3,a4,c4,a5,c5,a6,c6,a7,c7,rfl⟩:=eo.open hr.1;have HR:=V hr;have g1:=H.out.cell.2.1;have g2:=H.out.cell.2.2.1;have hil:m.imports.length <=9223372036854775807:=by
  obtain⟨_,_,_,h1,h2⟩:=fk hr.1.2.1;omega
 have hfl:m.funcs.length <=9223372036854775807:=by
  obtain⟨_,_,_,h1,h2⟩:=fk hr.1.2.2.1;omega
 have LD:=h.lt;clear h;by_cases q1:f < m.imports.length
 ·have f1:decide ((f:Int) < (m.imports.length:Int))=true:=ay (by omega)
  have f2:decide (f < m.imports.length)=true:=ay q1;obtain⟨e,he⟩:∃e,m.imports[f]?=some e:=⟨_,aq q1⟩;have HF:Hid (gm m f=typeOf m e.type):=V (by unfold gm;rw [if_pos (by omega),Int.toNat_natCast,he];rfl);obtain⟨_,_,hv,_,_,Lt⟩:=hr.1.2.1;injection hv with e1 e2 e3;subst e1;obtain⟨b,off,rfl,-,LM⟩:=Lt f e he;have y2:=H.out.ext'.1 _ _ (LM 2 _ rfl);clear e2 e3 Lt LM he hr;go_enter func199,ntmps199;go_wp2_with fail;refine(nX w1 C _ m lv ls _ c e.type H.out HR.out).mono ?_;rintro e' w2 ⟨v1,v2,rfl,Ou,MS,hb⟩;obtain⟨b1,k1,rfl,-,-,-⟩:=id Ou;obtain⟨b2,k2,rfl,-,-,-⟩:=id MS;have HV1:=V Ou;have Ox:=V MS;have HX:=V (HX.out.below hb HX.out.lt);have HB:=V (HB.out.trans (hb.mono HB.out.size));clear Ou MS hb;obtain⟨x0,x1,z0,z1⟩:=HX.out.two;go_wp2_with fail;have hx:=HX.out.mL (.slice b1 (typeOf m e.type).1.params.length k1) (.slice b2 (typeOf m e.type).1.results.length k2);have Lx:=fp w2 w.heap.size (.slice b1 (typeOf m e.type).1.params.length k1) (.slice b2 (typeOf m e.type).1.results.length k2);refine aF (eY rfl _ _ rfl hx.kr) rfl ?_;rw [HF.out];exact⟨_,_,rfl,HV1.out,Ox.out,HB.out.trans (Lx.below HB.out.size (fun i hi=>by omega))⟩
 ·have f1:decide ((f:Int) < (m.imports.length:Int))=false:=aw (by omega)
  have f2:decide (f < m.imports.length)=false:=aw q1;obtain⟨k,hk⟩:∃k,f - m.imports.length=k:=⟨_,rfl⟩;have f5:(f:Int) - (m.imports.length:Int)=(k:Int):=by omega
  have LH:k <=100000:=by omega
  by_cases q2:k < m.funcs.length
  ·have f3:decide ((k:Int) < (m.funcs.length:Int))=true:=ay (by omega)
   have f4:decide (k < m.funcs.length)=true:=ay q2;obtain⟨e,he⟩:∃e,m.funcs[k]?=some e:=⟨_,aq q2⟩;have HF:Hid (gm m f=typeOf m e):=V (by
    unfold gm;rw [az (by omega),aD (by omega),show((f:Int) - (m.imports.length:Int)).toNat=k by omega,he];rfl)
   obtain⟨_,_,hv,_,_,Lt⟩:=hr.1.2.2.1;injection hv with e1 e2 e3;subst e1;obtain⟨b,off,rfl,-,LM⟩:=Lt k e he;have y0:=H.out.ext'.1 _ _ (LM 0 _ rfl);rw [aI,aY]at y0;clear e2 e3 Lt LM he hr hk;go_enter func199,ntmps199;go_wp2_with fail;refine(nX w1 C _ m lv ls _ c e H.out HR.out).mono ?_;rintro e' w2 ⟨v1,v2,rfl,Ou,MS,hb⟩;obtain⟨b1,k1,rfl,-,-,-⟩:=id Ou;obtain⟨b2,k2,rfl,-,-,-⟩:=id MS;have HV1:=V Ou;have Ox:=V MS;have HX:=V (HX.out.below hb HX.out.lt);have HB:=V (HB.out.trans (hb.mono HB.out.size));clear Ou MS hb;obtain⟨x0,x1,z0,z1⟩:=HX.out.two;go_wp2_with fail;have hx:=HX.out.mL (.slice b1 (typeOf m e).1.params.length k1) (.slice b2 (typeOf m e).1.results.length k2);have Lx:=fp w2 w.heap.size (.slice b1 (typeOf m e).1.params.length k1) (.slice b2 (typeOf m e).1.results.length k2);refine aF (eY rfl _ _ rfl hx.kr) rfl ?_;rw [HF.out];exact⟨_,_,rfl,HV1.out,Ox.out,HB.out.trans (Lx.below HB.out.size (fun i hi=>by omega))⟩
  ·have f3:decide ((k:Int) < (m.funcs.length:Int))=false:=aw (by omega)
   have f4:decide (k < m.funcs.length)=false:=aw q2;have HF:Hid (gm m f=typeOf m (-1)):=V (by
    unfold gm;rw [az (by omega),az (by omega)])
   clear hr hk;go_enter func199,ntmps199;go_wp2_with fail;refine(nX w1 C _ m lv ls _ c (-1) H.out HR.out).mono ?_;rintro e' w2 ⟨v1,v2,rfl,Ou,MS,hb⟩;obtain⟨b1,k1,rfl,-,-,-⟩:=id Ou;obtain⟨b2,k2,rfl,-,-,-⟩:=id MS;have HV1:=V Ou;have Ox:=V MS;have HX:=V (HX.out.below hb HX.out.lt);have HB:=V (HB.out.trans (hb.mono HB.out.size));clear Ou MS hb;obtain⟨x0,x1,z0,z1⟩:=HX.out.two;go_wp2_with fail;have hx:=HX.out.mL (.slice b1 (typeOf m (-1)).1.params.length k1) (.slice b2 (typeOf m (-1)).1.results.length k2);have Lx:=fp w2 w.heap.size (.slice b1 (typeOf m (-1)).1.params.length k1) (.slice b2 (typeOf m (-1)).1.results.length k2);refine aF (eY rfl _ _ rfl hx.kr) rfl ?_;rw [HF.out];exact⟨_,_,rfl,HV1.out,Ox.out,HB.out.trans (Lx.below HB.out.size (fun i hi=>by omega))⟩
theorem Ea (w1:World) (C:Nat) (u:eE) (m:eu) (lv:Value) (ls:List Int) (w:World) (c:eH) (n:Nat) (h:fU w1 C u m lv w c) (hr:oN w1 C u m lv ls):
  Calls prog 200 #[.pointer (some ⟨C,0,none⟩), .int .i64 n] w (CE w1 C u m lv (.int .i64 (eH.local ls c n).1) (eH.local ls c n).2 w):=by
 have H:=V h;obtain⟨a,cap,rfl,N3,MF,Lt⟩:=id hr.2;have g14:=h.cell.2.2.2.2.2.2.1;have g17:=h.cell.2.2.2.2.2.2.2.1;have z17:=h.cell.2.2.2.2.2.2.2.2;by_cases q:n < ls.length
 ·have f1:decide ((ls.length:Int) <=(n:Int))=false:=aw (by omega)
  have f2:decide (ls.length <=n)=false:=aw (by omega);obtain⟨x,hx⟩:∃x,ls[n]?=some x:=⟨_,aq q⟩;have HL:Hid (eH.local ls c n=(x,c)):=V (by unfold eH.local;rw [if_neg (by omega),Int.toNat_natCast,hx];rfl);obtain⟨b,off,rfl,-,LM⟩:=Lt n x hx;have y0:=h.ext'.1 _ _ (LM 0 _ rfl);rw [aI,aY]at y0;clear Lt LM hx h hr;go_enter func200,ntmps200;go_wp2;go_ret;rw [HL.out];exact⟨rfl,H.out,dU.refl _ _,rfl⟩
 ·have f1:decide ((ls.length:Int) <=(n:Int))=true:=ay (by omega)
  have f2:decide (ls.length <=n)=true:=ay (by omega);have HL:Hid (eH.local ls c n=(0,{c with bad:=true})):=V (by unfold eH.local;rw [if_pos (by omega)]);clear Lt h hr q;go_enter func200,ntmps200;go_wp2;go_ret;rw [HL.out];exact⟨rfl,H.out.fail,ei w C 17 _,ct _ _ _ _ (by simp)⟩
theorem DX (w1:World) (C:Nat) (u:eE) (m:eu) (lv:Value) (w:World) (c:eH) (t:gw) (ok:Bool) (v1 v2:Value) (h:fU w1 C u m lv w c) (LF:gN c) (h1:ee 1 eU (rZ C w1) v1 t.params) (h2:ee 1 eU (rZ C w1) v2 t.results)
  (hp:t.params.length <=1000000) (hn:((c.need ok).fL t.params).dX.length+t.results.length <=100000):
  Calls prog 198 #[.pointer (some ⟨C,0,none⟩), .agg #[v1,v2], .bool ok] w (nj w1 C u m lv (.tuple #[]) (c.calls (t,ok))):=by
 obtain⟨a1,k1,rfl,-,-,-⟩:=id h1;obtain⟨a2,k2,rfl,-,-,-⟩:=id h2;have hb:=(an w.heap.size w).alloc (ag _) (.cells #[.slice a1 t.params.length k1, .slice a2 t.results.length k2] 69);have LD:=h.lt;have H:=V (h.below hb);have HX:=V (eD.new w #[.slice a1 t.params.length k1, .slice a2 t.results.length k2] 69);have H1:=V h1;have H2:=V h2;have Mv:=V (show gN (c.need ok)from⟨⟨LF.1.1,LF.1.2⟩,LF.2⟩);clear h h1 h2 LF hb;go_enter func198,ntmps198;go_wp2_with fail;refine(jw w1 C u m lv _ c ok H.out).mono ?_;rintro e w2 ⟨rfl,hs,hk,-⟩;have HS:=V hs;have HX:=V (HX.out.keeps hk (by omega));clear hs hk;have x0:=HX.out.cell 0;simp only [aM,aJ]at x0;go_wp2_with fail;refine(oE w1 C u m lv w2 _ _ t.params HS.out Mv.out (H1.out.ext HS.out.ext) hp).mono ?_;rintro e w3 ⟨rfl,hs,hk,-⟩;have HS:=V hs;have HX:=V (HX.out.keeps hk (by omega));clear hs hk x0;have x1:=HX.out.cell 1;simp only [aM,aJ,aT]at x1;go_wp2_with fail;refine(lL w1 C u m lv w3 _ _ t.results HS.out (H2.out.ext HS.out.ext) hn).mono ?_;rintro e w4 ⟨rfl,hs⟩;have HS:=V hs;clear hs x1;go_wp2
 go_end0
 exact⟨rfl,HS.out⟩
def qj (w1:World) (C:Nat) (u:eE) (m:eu) (lv:Value) (x:eP) (c:eH) (w:World) (e:Ending) (w':World):Prop:=
 (∃c',c.control m x=some c'/\e= .returned (.bool true)/\fU w1 C u m lv w' c')\/(c.control m x=none/\e= .returned (.bool false)/\fU w1 C u m lv w' c/\dU (fun i=>i=C) w w')
def eu.short (m:eu):Prop:=∀t∈m.types,t.params.length <=1000/\t.results.length <=10
theorem qS {m:eu} (h:m.short) (t:Int):(typeOf m t).1.params.length <=1000/\(typeOf m t).1.results.length <=10:=by
 unfold typeOf;split
 ·simp
 ·simp only
  cases hx:m.types[t.toNat]? with
  | none=>simp
  | some x=>exact h x (aN hx)
theorem nA {m:eu} (h:m.short) (f:Int):(gm m f).1.params.length <=1000/\(gm m f).1.results.length <=10:=qS h _
theorem oy (k:Int):(gx k).length <=1:=by unfold gx;split <;>simp
theorem KQ (w1:World) (C:Nat) (u:eE) (m:eu) (lv:Value) (ls:List Int) (w:World) (c:eH) (a b:Int) (al:Option Addr) (nl cl:Nat) (l:List Int) (h:fU w1 C u m lv w c) (LF:gN c) (hr:oN w1 C u m lv ls) (Oi:m.short) (hv:c.dX.length <=50000) (hc:c.eM.length <=50000):
  Calls prog 116 #[.pointer (some ⟨C,0,none⟩), .agg #[.int .i64 0, .int .i64 a, .int .i64 b, .slice al nl cl]] w (qj w1 C u m lv ⟨0,a,b,l⟩ c w):=by
 have hu:=And.intro hr (And.intro Oi (And.intro hv hc));clear hu;have hb:=(an w.heap.size w).alloc (ag _) (.cells #[.int .i64 0, .int .i64 a, .int .i64 b, .slice al nl cl] 39);have LD:=h.lt;have HS:=V (h.below hb);have HX:=V (eD.new w #[.int .i64 0, .int .i64 a, .int .i64 b, .slice al nl cl] 39);have HK:=V (dU.dW (S:=fun i=>i=C) hb);have Mv:=V LF;have y0:=HX.out.cell 0;have y1:=HX.out.cell 1;simp only [aM,aJ,aT]at y0 y1;clear h hb LF;go_enter func116,ntmps116;go_wp2_with fail;refine(zG w1 C u m lv _ _ HS.out Mv.out).mono ?_;rintro e w9 ⟨rfl,hs⟩;have HS:=V hs;clear hs;go_wp2;go_ret;exact .inl ⟨_,rfl,rfl,HS.out⟩
theorem Ld (w1:World) (C:Nat) (u:eE) (m:eu) (lv:Value) (ls:List Int) (w:World) (c:eH) (a b:Int) (al:Option Addr) (nl cl:Nat) (l:List Int) (h:fU w1 C u m lv w c) (LF:gN c) (hr:oN w1 C u m lv ls) (Oi:m.short) (hv:c.dX.length <=50000) (hc:c.eM.length <=50000):
  Calls prog 116 #[.pointer (some ⟨C,0,none⟩), .agg #[.int .i64 2, .int .i64 a, .int .i64 b, .slice al nl cl]] w (qj w1 C u m lv ⟨2,a,b,l⟩ c w):=by
 have hu:=And.intro hr (And.intro Oi (And.intro hv hc));clear hu;have hb:=(an w.heap.size w).alloc (ag _) (.cells #[.int .i64 2, .int .i64 a, .int .i64 b, .slice al nl cl] 39);have LD:=h.lt;have HS:=V (h.below hb);have HX:=V (eD.new w #[.int .i64 2, .int .i64 a, .int .i64 b, .slice al nl cl] 39);have HK:=V (dU.dW (S:=fun i=>i=C) hb);have Mv:=V LF;have y0:=HX.out.cell 0;have y1:=HX.out.cell 1;simp only [aM,aJ,aT]at y0 y1;clear h hb LF;go_enter func116,ntmps116;go_wp2_with fail;refine(uq w1 C u m lv _ c 2 a HS.out (by omega)).mono ?_;rintro e w9 ⟨rfl,hs⟩;have HS:=V hs;clear hs y0 y1;go_wp2;go_ret;exact .inl ⟨_,rfl,rfl,HS.out⟩
theorem J4 (w1:World) (C:Nat) (u:eE) (m:eu) (lv:Value) (ls:List Int) (w:World) (c:eH) (a b:Int) (al:Option Addr) (nl cl:Nat) (l:List Int) (h:fU w1 C u m lv w c) (LF:gN c) (hr:oN w1 C u m lv ls) (Oi:m.short) (hv:c.dX.length <=50000) (hc:c.eM.length <=50000):
  Calls prog 116 #[.pointer (some ⟨C,0,none⟩), .agg #[.int .i64 11, .int .i64 a, .int .i64 b, .slice al nl cl]] w (qj w1 C u m lv ⟨11,a,b,l⟩ c w):=by
 have hu:=And.intro hr (And.intro Oi (And.intro hv hc));clear hu;have hb:=(an w.heap.size w).alloc (ag _) (.cells #[.int .i64 11, .int .i64 a, .int .i64 b, .slice al nl cl] 39);have LD:=h.lt;have HS:=V (h.below hb);have HX:=V (eD.new w #[.int .i64 11, .int .i64 a, .int .i64 b, .slice al nl cl] 39);have HK:=V (dU.dW (S:=fun i=>i=C) hb);have Mv:=V LF;have y0:=HX.out.cell 0;have y1:=HX.out.cell 1;simp only [aM,aJ,aT]at y0 y1;clear h hb LF;go_enter func116,ntmps116;go_wp2_with fail;refine(uR w1 C u m lv _ c HS.out Mv.out).mono ?_;rintro e w2 ⟨rfl,hs,hk⟩;unfold GQ;have hb:=(an w2.heap.size w2).alloc (ag _) (.cells #[.int .i64 c.top.op, .int .i64 c.top.kind, .int .i64 c.top.eJ, .bool c.top.dead] 191);have HS:=V (hs.below hb);have HT:=V (eD.new w2 #[.int .i64 c.top.op, .int .i64 c.top.kind, .int .i64 c.top.eJ, .bool c.top.dead] 191);have hl2:=hs.lt;clear hs hk y0 y1 hb;obtain⟨⟨t0,t1,t2,t3⟩,-,-,-,-⟩:=HT.out.four;clear t2 t3;by_cases q1:c.top.op=4
 ·have f1:(c.top.op !=4)=false:=by simp [q1]
  by_cases q2:c.top.kind=0
  ·have f2:=eI q2
   have HQ:=V (show(c.top.op !=4 || c.top.kind==0)=true by rw [f1,f2];rfl);clear q1 q2;go_wp2_with fail;refine(jw w1 C u m lv _ c.shut.2 true HS.out).mono ?_;rintro e w3 ⟨rfl,hs,hk,-⟩;have HS:=V hs;have HT:=V (HT.out.keeps hk (by omega));clear hs hk t0 t1;have t1:=HT.out.cell 1;simp only [aM,aJ,aT]at t1;go_wp2_with fail;refine(mN c.top.kind w3 C HS.out.lt.1).mono ?_;rintro e w4 ⟨kv,rfl,hl,hb⟩;have HL:=V hl;have HS:=V (HS.out.below hb);clear hl hb t1;have OV:=oy c.top.kind;have N6:=qY c;go_wp2_with fail;refine(lL w1 C u m lv w4 _ _ _ HS.out HL.out (by show c.shut.2.dX.length+_ <=_;omega)).mono ?_;rintro e w5 ⟨rfl,hs⟩;have HS:=V hs;clear hs;go_wp2;go_ret;refine .inl ⟨_,rfl,rfl,?_⟩;show fU w1 C u m lv w5 ((c.shut.2.need (c.top.op !=4 || c.top.kind==0)).push (gx c.top.kind));rw [HQ.out];exact HS.out
  ·have f2:=dR q2
   have HQ:=V (show(c.top.op !=4 || c.top.kind==0)=false by rw [f1,f2];rfl);clear q1 q2;go_wp2_with fail;refine(jw w1 C u m lv _ c.shut.2 false HS.out).mono ?_;rintro e w3 ⟨rfl,hs,hk,-⟩;have HS:=V hs;have HT:=V (HT.out.keeps hk (by omega));clear hs hk t0 t1;have t1:=HT.out.cell 1;simp only [aM,aJ,aT]at t1;go_wp2_with fail;refine(mN c.top.kind w3 C HS.out.lt.1).mono ?_;rintro e w4 ⟨kv,rfl,hl,hb⟩;have HL:=V hl;have HS:=V (HS.out.below hb);clear hl hb t1;have OV:=oy c.top.kind;have N6:=qY c;go_wp2_with fail;refine(lL w1 C u m lv w4 _ _ _ HS.out HL.out (by show c.shut.2.dX.length+_ <=_;omega)).mono ?_;rintro e w5 ⟨rfl,hs⟩;have HS:=V hs;clear hs;go_wp2;go_ret;refine .inl ⟨_,rfl,rfl,?_⟩;show fU w1 C u m lv w5 ((c.shut.2.need (c.top.op !=4 || c.top.kind==0)).push (gx c.top.kind));rw [HQ.out];exact HS.out
 ·have f1:(c.top.op !=4)=true:=by simp [q1]
  have HQ:=V (show(c.top.op !=4 || c.top.kind==0)=true by rw [f1];rfl);clear q1;go_wp2_with fail;refine(jw w1 C u m lv _ c.shut.2 true HS.out).mono ?_;rintro e w3 ⟨rfl,hs,hk,-⟩;have HS:=V hs;have HT:=V (HT.out.keeps hk (by omega));clear hs hk t0 t1;have t1:=HT.out.cell 1;simp only [aM,aJ,aT]at t1;go_wp2_with fail;refine(mN c.top.kind w3 C HS.out.lt.1).mono ?_;rintro e w4 ⟨kv,rfl,hl,hb⟩;have HL:=V hl;have HS:=V (HS.out.below hb);clear hl hb t1;have OV:=oy c.top.kind;have N6:=qY c;go_wp2_with fail;refine(lL w1 C u m lv w4 _ _ _ HS.out HL.out (by show c.shut.2.dX.length+_ <=_;omega)).mono ?_;rintro e w5 ⟨rfl,hs⟩;have HS:=V hs;clear hs;go_wp2;go_ret;refine .inl ⟨_,rfl,rfl,?_⟩;show fU w1 C u m lv w5 ((c.shut.2.need (c.top.op !=4 || c.top.kind==0)).push (gx c.top.kind));rw [HQ.out];exact HS.out
theorem Kd (w1:World) (C:Nat) (u:eE) (m:eu) (lv:Value) (ls:List Int) (w:World) (c:eH) (a b:Int) (al:Option Addr) (nl cl:Nat) (l:List Int) (h:fU w1 C u m lv w c) (LF:gN c) (hr:oN w1 C u m lv ls) (Oi:m.short) (hv:c.dX.length <=50000) (hc:c.eM.length <=50000) (ha:0 <=a/\a <=1000):
  Calls prog 116 #[.pointer (some ⟨C,0,none⟩), .agg #[.int .i64 12, .int .i64 a, .int .i64 b, .slice al nl cl]] w (qj w1 C u m lv ⟨12,a,b,l⟩ c w):=by
 obtain⟨k,rfl⟩:∃k:Nat,a=k:=⟨a.toNat,by omega⟩;have hu:=And.intro hr (And.intro Oi (And.intro hv hc));clear hu;have hb:=(an w.heap.size w).alloc (ag _) (.cells #[.int .i64 12, .int .i64 k, .int .i64 b, .slice al nl cl] 39);have LD:=h.lt;have HS:=V (h.below hb);have HX:=V (eD.new w #[.int .i64 12, .int .i64 k, .int .i64 b, .slice al nl cl] 39);have HK:=V (dU.dW (S:=fun i=>i=C) hb);have Mv:=V LF;have y0:=HX.out.cell 0;have y1:=HX.out.cell 1;simp only [aM,aJ,aT]at y0 y1;clear h hb LF;go_enter func116,ntmps116;go_wp2_with fail;refine(DR w1 C u m lv _ _ k HS.out).mono ?_;rintro e w2 ⟨kv,rfl,hl,hs,hk⟩;have HS:=V hs;have HL:=V hl;have HX:=V (HX.out.keeps hk (by omega));clear hs hk y0 y1 hl;have hok2:gN (c.label k).2:=Mv.out.label _;have OV:=Dc c k;go_wp2_with fail;refine(oE w1 C u m lv w2 _ kv _ HS.out hok2 HL.out (by omega)).mono ?_;rintro e w3 ⟨rfl,hs,hk,-⟩;have HS:=V hs;clear hs hk;go_wp2_with fail;refine(zG w1 C u m lv _ _ HS.out (hok2.fL _)).mono ?_;rintro e w9 ⟨rfl,hs⟩;have HS:=V hs;clear hs;go_wp2;go_ret;exact .inl ⟨_,rfl,rfl,HS.out⟩
theorem Kn (w1:World) (C:Nat) (u:eE) (m:eu) (lv:Value) (ls:List Int) (w:World) (c:eH) (a b:Int) (al:Option Addr) (nl cl:Nat) (l:List Int) (h:fU w1 C u m lv w c) (LF:gN c) (hr:oN w1 C u m lv ls) (Oi:m.short) (hv:c.dX.length <=50000) (hc:c.eM.length <=50000) (ha:0 <=a/\a <=1000):
  Calls prog 116 #[.pointer (some ⟨C,0,none⟩), .agg #[.int .i64 16, .int .i64 a, .int .i64 b, .slice al nl cl]] w (qj w1 C u m lv ⟨16,a,b,l⟩ c w):=by
 obtain⟨k,rfl⟩:∃k:Nat,a=k:=⟨a.toNat,by omega⟩;have hu:=And.intro hr (And.intro Oi (And.intro hv hc));clear hu;have hb:=(an w.heap.size w).alloc (ag _) (.cells #[.int .i64 16, .int .i64 k, .int .i64 b, .slice al nl cl] 39);have LD:=h.lt;have HS:=V (h.below hb);have HX:=V (eD.new w #[.int .i64 16, .int .i64 k, .int .i64 b, .slice al nl cl] 39);have HK:=V (dU.dW (S:=fun i=>i=C) hb);have Mv:=V LF;have y0:=HX.out.cell 0;have y1:=HX.out.cell 1;simp only [aM,aJ,aT]at y0 y1;clear h hb LF;go_enter func116,ntmps116;go_wp2_with fail;refine(vT w1 C u m lv ls _ c k (by omega) HS.out hr).mono ?_;rintro e w2 ⟨v1,v2,rfl,Ou,MS,hb⟩;have HS:=V (HS.out.below hb);have HV1:=V Ou;have Ox:=V MS;clear hb Ou MS y0 y1;have hsh:=nA Oi (k:Int);have N6:((c.need (gm m k).2).fL (gm m k).1.params).dX.length <=50000:=aQ (eH.kV _ _) hv;go_wp2_with fail;refine(DX w1 C u m lv w2 c (gm m k).1 (gm m k).2 _ _ HS.out Mv.out HV1.out Ox.out (by omega) (by omega)).mono ?_;rintro e w3 ⟨rfl,hs⟩;have HS:=V hs;clear hs;go_wp2;go_ret;exact .inl ⟨_,rfl,rfl,HS.out⟩
theorem K8 (w1:World) (C:Nat) (u:eE) (m:eu) (lv:Value) (w:World) (c:eH) (op a b:Int) (al:Option Addr) (nl cl:Nat) (l:List Int) (h:fU w1 C u m lv w c) (No:¬ (op=0\/op=1\/op=2\/op=3\/op=4\/op=5\/op=11\/op=12\/op=13\/op=14\/op=15\/op=16\/op=17)):
  Calls prog 116 #[.pointer (some ⟨C,0,none⟩), .agg #[.int .i64 op, .int .i64 a, .int .i64 b, .slice al nl cl]] w (qj w1 C u m lv ⟨op,a,b,l⟩ c w):=by
 have HN:Hid (c.control m ⟨op,a,b,l⟩=none):=V (by
  unfold eH.control;simp only
  repeat (rw [az (by omega)]))
 have f0:(op==0)=false:=dR (by omega);have f1:(op==1)=false:=dR (by omega);have f2:(op==2)=false:=dR (by omega);have f3:(op==3)=false:=dR (by omega);have f4:(op==4)=false:=dR (by omega);have f5:(op==5)=false:=dR (by omega);have f11:(op==11)=false:=dR (by omega);have f12:(op==12)=false:=dR (by omega);have f13:(op==13)=false:=dR (by omega);have f14:(op==14)=false:=dR (by omega);have f15:(op==15)=false:=dR (by omega);have f16:(op==16)=false:=dR (by omega);have f17:(op==17)=false:=dR (by omega);have hb:=(an w.heap.size w).alloc (ag _) (.cells #[.int .i64 op, .int .i64 a, .int .i64 b, .slice al nl cl] 39);have HS:=V (h.below hb);have HX:=V (eD.new w #[.int .i64 op, .int .i64 a, .int .i64 b, .slice al nl cl] 39);have HK:=V (dU.dW (S:=fun i=>i=C) hb);have y0:=HX.out.cell 0;simp only [aM,aJ]at y0;clear h hb No;go_enter func116,ntmps116;go_wp2;go_ret;exact .inr ⟨HN.out,rfl,HS.out,HK.out⟩
theorem yZ (op:Int):(eQ op).1.length <=2:=by
 unfold eQ;split
 ·simp
 split
 ·simp
 split
 ·simp
 split
 ·simp
 split
 ·simp
 split
 ·simp
 split <;>simp
theorem Lg (w1:World) (C:Nat) (u:eE) (m:eu) (lv:Value) (ls:List Int) (w:World) (c:eH) (a b:Int) (al:Option Addr) (nl cl:Nat) (l:List Int) (h:fU w1 C u m lv w c) (LF:gN c) (hr:oN w1 C u m lv ls) (hv:c.dX.length <=50000):
  Calls prog 117 #[.pointer (some ⟨C,0,none⟩), .agg #[.int .i64 26, .int .i64 a, .int .i64 b, .slice al nl cl]] w (nj w1 C u m lv (.tuple #[]) (eH.plain m ls c ⟨26,a,b,l⟩)):=by
 have hu:=And.intro LF (And.intro hr hv);clear hu;have LG:=(an w.heap.size w).alloc (ag _) (.cells #[.int .i64 26, .int .i64 a, .int .i64 b, .slice al nl cl] 39);have hX:=eD.new w #[.int .i64 26, .int .i64 a, .int .i64 b, .slice al nl cl] 39;have Lw:=(LG.alloc LG.size (.cells #[.int .i64 1] 3)).alloc (by rw [aC];exact aQ LG.size (dP _)) (.cells #[.int .i64 2] 3);have HX:=V ((hX.alloc (.cells #[.int .i64 1] 3)).alloc (.cells #[.int .i64 2] 3));have LD:=h.lt;have HS:=V (h.below Lw);have Mv:=V LF;have y0:=hX.cell 0;have y0':=HX.out.cell 0;have y1:=HX.out.cell 1;simp only [aM,aJ,aT]at y0 y0' y1;clear h LG Lw hX LF;go_enter func117,ntmps117;go_wp2_with fail;refine(Cu w1 C u m lv _ c 0 HS.out Mv.out.2 Mv.out.top).mono ?_;rintro e w2 ⟨rfl,hs,hk,-⟩;have HS:=V hs;have HX:=V (HX.out.keeps hk (by omega));clear hs hk y0 y0' y1;have y0:=HX.out.cell 0;have y1:=HX.out.cell 1;simp only [aM,aJ,aT]at y0 y1;go_wp2
 go_end0
 exact⟨rfl,HS.out⟩
theorem K4 (w1:World) (C:Nat) (u:eE) (m:eu) (lv:Value) (ls:List Int) (w:World) (c:eH) (a b:Int) (al:Option Addr) (nl cl:Nat) (l:List Int) (h:fU w1 C u m lv w c) (LF:gN c) (hr:oN w1 C u m lv ls) (hv:c.dX.length <=50000) (ha:0 <=a/\a <=1000):
  Calls prog 117 #[.pointer (some ⟨C,0,none⟩), .agg #[.int .i64 32, .int .i64 a, .int .i64 b, .slice al nl cl]] w (nj w1 C u m lv (.tuple #[]) (eH.plain m ls c ⟨32,a,b,l⟩)):=by
 obtain⟨k,rfl⟩:∃k:Nat,a=k:=⟨a.toNat,by omega⟩;have hu:=And.intro LF (And.intro hr hv);clear hu;have LG:=(an w.heap.size w).alloc (ag _) (.cells #[.int .i64 32, .int .i64 k, .int .i64 b, .slice al nl cl] 39);have hX:=eD.new w #[.int .i64 32, .int .i64 k, .int .i64 b, .slice al nl cl] 39;have Lw:=(LG.alloc LG.size (.cells #[.int .i64 1] 3)).alloc (by rw [aC];exact aQ LG.size (dP _)) (.cells #[.int .i64 2] 3);have HX:=V ((hX.alloc (.cells #[.int .i64 1] 3)).alloc (.cells #[.int .i64 2] 3));have LD:=h.lt;have HS:=V (h.below Lw);have Mv:=V LF;have y0:=hX.cell 0;have y0':=HX.out.cell 0;have y1:=HX.out.cell 1;simp only [aM,aJ,aT]at y0 y0' y1;clear h LG Lw hX LF;go_enter func117,ntmps117;go_wp2_with fail;refine(Ea w1 C u m lv ls _ c k HS.out hr).mono ?_;rintro e w2 ⟨rfl,hs,hk,-⟩;have HS:=V hs;have HX:=V (HX.out.keeps hk (by omega));clear hs hk y0 y0' y1;have y0:=HX.out.cell 0;have y1:=HX.out.cell 1;simp only [aM,aJ,aT]at y0 y1;have l1:(eH.local ls c k).2.dX.length <=50000:=by rw [(pa c ls k).2];exact hv
 have hb:=(an w2.heap.size w2).alloc (ag _) (.cells #[.int .i64 (eH.local ls c k).1] 3);have HL:=V (kG w2 (eH.local ls c k).1 3 HS.out.lt.1);have HS:=V (HS.out.below hb);clear hb;go_wp2_with fail;refine(lL w1 C u m lv _ _ _ [(eH.local ls c k).1] HS.out HL.out (by simp only [aB];omega)).mono ?_;rintro e w9 ⟨rfl,hs⟩;have HS:=V hs;clear hs;go_wp2
 go_end0
 exact⟨rfl,HS.out⟩
theorem Lc (w1:World) (C:Nat) (u:eE) (m:eu) (lv:Value) (ls:List Int) (w:World) (c:eH) (a b:Int) (al:Option Addr) (nl cl:Nat) (l:List Int) (h:fU w1 C u m lv w c) (LF:gN c) (hr:oN w1 C u m lv ls) (hv:c.dX.length <=50000):
  Calls prog 117 #[.pointer (some ⟨C,0,none⟩), .agg #[.int .i64 65, .int .i64 a, .int .i64 b, .slice al nl cl]] w (nj w1 C u m lv (.tuple #[]) (eH.plain m ls c ⟨65,a,b,l⟩)):=by
 have hu:=And.intro LF (And.intro hr hv);clear hu;have LG:=(an w.heap.size w).alloc (ag _) (.cells #[.int .i64 65, .int .i64 a, .int .i64 b, .slice al nl cl] 39);have hX:=eD.new w #[.int .i64 65, .int .i64 a, .int .i64 b, .slice al nl cl] 39;have Lw:=(LG.alloc LG.size (.cells #[.int .i64 1] 3)).alloc (by rw [aC];exact aQ LG.size (dP _)) (.cells #[.int .i64 2] 3);have HX:=V ((hX.alloc (.cells #[.int .i64 1] 3)).alloc (.cells #[.int .i64 2] 3));have LD:=h.lt;have HS:=V (h.below Lw);have Mv:=V LF;have y0:=hX.cell 0;have y0':=HX.out.cell 0;have y1:=HX.out.cell 1;simp only [aM,aJ,aT]at y0 y0' y1;clear h LG Lw hX LF;go_enter func117,ntmps117;go_wp2_with fail;have HL:=V (kG (((w.alloc (.cells #[.int .i64 65, .int .i64 a, .int .i64 b, .slice al nl cl] 39)).alloc (.cells #[.int .i64 1] 3)).alloc (.cells #[.int .i64 2] 3)) 1 3 HS.out.lt.1);have HS:=V (HS.out.alloc (.cells #[.int .i64 1] 3));simp only [aC]at HL;refine(lL w1 C u m lv _ _ _ [1] HS.out HL.out (by simp only [aB];omega)).mono ?_;rintro e w9 ⟨rfl,hs⟩;have HS:=V hs;clear hs;go_wp2
 go_end0
 exact⟨rfl,HS.out⟩
theorem KS (w1:World) (C:Nat) (u:eE) (m:eu) (lv:Value) (ls:List Int) (w:World) (c:eH) (a b:Int) (al:Option Addr) (nl cl:Nat) (l:List Int) (h:fU w1 C u m lv w c) (LF:gN c) (hr:oN w1 C u m lv ls) (hv:c.dX.length <=50000):
  Calls prog 117 #[.pointer (some ⟨C,0,none⟩), .agg #[.int .i64 66, .int .i64 a, .int .i64 b, .slice al nl cl]] w (nj w1 C u m lv (.tuple #[]) (eH.plain m ls c ⟨66,a,b,l⟩)):=by
 have hu:=And.intro LF (And.intro hr hv);clear hu;have LG:=(an w.heap.size w).alloc (ag _) (.cells #[.int .i64 66, .int .i64 a, .int .i64 b, .slice al nl cl] 39);have hX:=eD.new w #[.int .i64 66, .int .i64 a, .int .i64 b, .slice al nl cl] 39;have Lw:=(LG.alloc LG.size (.cells #[.int .i64 1] 3)).alloc (by rw [aC];exact aQ LG.size (dP _)) (.cells #[.int .i64 2] 3);have HX:=V ((hX.alloc (.cells #[.int .i64 1] 3)).alloc (.cells #[.int .i64 2] 3));have LD:=h.lt;have HS:=V (h.below Lw);have Mv:=V LF;have y0:=hX.cell 0;have y0':=HX.out.cell 0;have y1:=HX.out.cell 1;simp only [aM,aJ,aT]at y0 y0' y1;clear h LG Lw hX LF;go_enter func117,ntmps117;go_wp2_with fail;have HL:=V (kG (((w.alloc (.cells #[.int .i64 66, .int .i64 a, .int .i64 b, .slice al nl cl] 39)).alloc (.cells #[.int .i64 1] 3)).alloc (.cells #[.int .i64 2] 3)) 2 3 HS.out.lt.1);have HS:=V (HS.out.alloc (.cells #[.int .i64 2] 3));simp only [aC]at HL;refine(lL w1 C u m lv _ _ _ [2] HS.out HL.out (by simp only [aB];omega)).mono ?_;rintro e w9 ⟨rfl,hs⟩;have HS:=V hs;clear hs;go_wp2
 go_end0
 exact⟨rfl,HS.out⟩
theorem Lr (w1:World) (C:Nat) (u:eE) (m:eu) (lv:Value) (ls:List Int) (w:World) (c:eH) (op a b:Int) (al:Option Addr) (nl cl:Nat) (l:List Int) (h:fU w1 C u m lv w c) (LF:gN c) (hr:oN w1 C u m lv ls) (hv:c.dX.length <=50000) (No:¬ (op=26\/op=27\/op=32\/op=33\/op=34\/op=35\/op=36\/op=40\/op=41\/op=44\/op=45\/op=54\/op=55\/op=58\/op=63\/op=64\/op=65\/op=66)):
  Calls prog 117 #[.pointer (some ⟨C,0,none⟩), .agg #[.int .i64 op, .int .i64 a, .int .i64 b, .slice al nl cl]] w (nj w1 C u m lv (.tuple #[]) (eH.plain m ls c ⟨op,a,b,l⟩)):=by
 have HN:Hid (eH.plain m ls c ⟨op,a,b,l⟩=((c.need (eQ op).2.2).fL (eQ op).1).push [(eQ op).2.1]):=V (by
  unfold eH.plain;simp only
  repeat (rw [az (by omega)]))
 have f26:(op==26)=false:=dR (by omega);have f27:(op==27)=false:=dR (by omega);have f32:(op==32)=false:=dR (by omega);have f33:(op==33)=false:=dR (by omega);have f34:(op==34)=false:=dR (by omega);have f35:(op==35)=false:=dR (by omega);have f36:(op==36)=false:=dR (by omega);have f40:(op==40)=false:=dR (by omega);have f41:(op==41)=false:=dR (by omega);have f44:(op==44)=false:=dR (by omega);have f45:(op==45)=false:=dR (by omega);have f54:(op==54)=false:=dR (by omega);have f55:(op==55)=false:=dR (by omega);have f58:(op==58)=false:=dR (by omega);have f63:(op==63)=false:=dR (by omega);have f64:(op==64)=false:=dR (by omega);have f65:(op==65)=false:=dR (by omega);have f66:(op==66)=false:=dR (by omega);clear No;have hu:=And.intro LF (And.intro hr hv);clear hu;have LG:=(an w.heap.size w).alloc (ag _) (.cells #[.int .i64 op, .int .i64 a, .int .i64 b, .slice al nl cl] 39);have hX:=eD.new w #[.int .i64 op, .int .i64 a, .int .i64 b, .slice al nl cl] 39;have Lw:=(LG.alloc LG.size (.cells #[.int .i64 1] 3)).alloc (by rw [aC];exact aQ LG.size (dP _)) (.cells #[.int .i64 2] 3);have HX:=V ((hX.alloc (.cells #[.int .i64 1] 3)).alloc (.cells #[.int .i64 2] 3));have LD:=h.lt;have HS:=V (h.below Lw);have Mv:=V LF;have y0:=hX.cell 0;have y0':=HX.out.cell 0;have y1:=HX.out.cell 1;simp only [aM,aJ,aT]at y0 y0' y1;clear h LG Lw hX LF;go_enter func117,ntmps117;go_wp2_with fail;refine(qL op _ C HS.out.lt.1).mono ?_;rintro e w2 ⟨v,rfl,hl,hb⟩;have HS:=V (HS.out.below hb);have HL:=V hl;have Mi:=yZ op;clear hl hb y0 y0' y1 f26 f27 f32 f33 f34 f35 f36 f40 f41 f44 f45 f54 f55 f58 f63 f64 f65 f66;go_wp2_with fail;refine(jw w1 C u m lv w2 c (eQ op).2.2 HS.out).mono ?_;rintro e w3 ⟨rfl,hs,hk,-⟩;have HS:=V hs;have HL:=V (HL.out.ext (pM hk));clear hs hk;go_wp2_with fail;refine(oE w1 C u m lv w3 _ v (eQ op).1 HS.out (Mv.out.need _) HL.out (by omega)).mono ?_;rintro e w4 ⟨rfl,hs,hk,-⟩;have HS:=V hs;have l1:=eH.kV (c.need (eQ op).2.2) (eQ op).1;rw [eH.wV]at l1;clear hs hk;have hb:=(an w4.heap.size w4).alloc (ag _) (.cells #[.int .i64 (eQ op).2.1] 3);have HL:=V (kG w4 (eQ op).2.1 3 HS.out.lt.1);have HS:=V (HS.out.below hb);clear hb;go_wp2_with fail;refine(lL w1 C u m lv _ _ _ [(eQ op).2.1] HS.out HL.out (by simp only [aB];omega)).mono ?_;rintro e w9 ⟨rfl,hs⟩;have HS:=V hs;clear hs;go_wp2
 go_end0
 rw [HN.out];exact⟨rfl,HS.out⟩
def eP.ot (x:eP):Prop:=x.op=0\/x.op=2\/x.op=11\/x.op=12\/x.op=16\/x.op=26\/x.op=32\/x.op=65\/x.op=66\/x.op=106
def uu (c c':eH) (op:Int):Prop:=c'.sound/\(c'.eM.length:Int)=hU op c.eM.length/\c'.dX.length <=c.dX.length+10
theorem sD {op d:Int} (h:¬ (op=2\/op=3\/op=4\/op=11)):hU op d=d:=by
 unfold hU kA;rw [az (by omega)];have h2:¬ op=2:=by omega
 have h3:¬ op=3:=by omega
 have h4:¬ op=4:=by omega
 simp [h2,h3,h4]
theorem nB {c d:eH} {l:List Int} {op:Int} (hd:gN d) (hc:d.eM.length=c.eM.length) (hv:d.dX.length <=c.dX.length) (hl:l.length <=10) (ho:¬ (op=2\/op=3\/op=4\/op=11)):uu c (d.push l) op:=
 ⟨(hd.push l).1,by rw [sD ho,eH.ui,hc],by simp only [eH.push,ah];omega⟩
theorem wv {c d:eH} {op:Int} (hd:gN d) (hc:d.eM.length=c.eM.length) (hv:d.dX.length <=c.dX.length) (ho:¬ (op=2\/op=3\/op=4\/op=11)):uu c d op:=
 ⟨hd.1,by rw [sD ho,hc],by omega⟩
theorem wo {c d:eH} {op:Int} (hd:gN d) (hc:d.eM.length=c.eM.length) (hv:d.dX.length <=c.dX.length) (ho:¬ (op=2\/op=3\/op=4\/op=11)):uu c d.dead op:=
 wv hd.dead (by rw [Bp hd.2,hc]) (aQ (Ei d) hv) ho
theorem Ca {c d:eH} {op k:Int} (hd:gN d) (hc:d.eM.length=c.eM.length) (hv:d.dX.length <=c.dX.length) (ho:op=2\/op=3\/op=4):uu c (d.begin op k) op:=by
 refine⟨(hd.begin op k).1,?_,by simp only [eH.begin];omega⟩;have:hU op (c.eM.length:Int)=c.eM.length+1:=by
  rcases ho with rfl | rfl | rfl <;>rfl
 rw [this];simp [eH.begin,hc]
theorem Hi {m:eu} (Oi:m.short) {ls:List Int} {c:eH} (h:gN c) (x:eP) (hx:x.ot):uu c (c.step m ls x) x.op:=by
 unfold eH.step;rcases hx with q | q | q | q | q | q | q | q | q | q
 ·rw [show c.control m x=some c.dead by simp [eH.control,q]]
  exact wo h rfl (ag _) (by omega)
 ·rw [show c.control m x=some (c.begin x.op x.a)by simp [eH.control,q]]
  exact Ca h rfl (ag _) (by omega)
 ·rw [show c.control m x=some ((c.shut.2.need (c.shut.1.op !=4 || c.shut.1.kind==0)).push (gx c.shut.1.kind))by simp [eH.control,q]]
  have hp:=List.length_pos_iff.2 h.2;have hs:=BD h;refine⟨eH.sound.push ⟨hs.1,hs.2⟩ _,?_,?_⟩
  ·rw [show hU x.op (c.eM.length:Int)=c.eM.length - 1 by rw [q];rfl]
   rw [dE,eH.ui,eH.mR,qy,dm];omega
  ·have:=qY c
   have:=oy c.shut.1.kind;simp only [dE,eH.push,eH.wV,ah];omega
 ·rw [show c.control m x=some ((c.label x.a).2.fL (c.label x.a).1).dead by simp [eH.control,q]]
  exact wo ((h.label _).fL _) (by rw [eH.ik,(su _ _).1]) (aQ (eH.kV _ _) (by rw [(su _ _).2];exact ag _)) (by omega)
 ·rw [show c.control m x=some (c.calls (gm m x.a))by simp [eH.control,q]]
  exact nB ((h.need _).fL _) (by rw [eH.ik];rfl) (eH.kV _ _) (nA Oi _).2 (by omega)
 all_goals rw [show c.control m x=none by simp [eH.control,q],Option.getD_none]
 ·rw [show c.plain m ls x=(c.pop 0).2 by simp [eH.plain,q]]
  exact wv (h.pop 0) (by rw [eH.pK]) (eH.C2 c 0) (by omega)
 ·rw [show c.plain m ls x=(c.local ls x.a).2.push [(c.local ls x.a).1]by simp [eH.plain,q]]
  exact nB (h.local ls _) (by rw [(pa _ _ _).1]) (by rw [(pa _ _ _).2];exact ag _) (by simp) (by omega)
 ·rw [show c.plain m ls x=c.push [1]by simp [eH.plain,q]]
  exact nB h rfl (ag _) (by simp) (by omega)
 ·rw [show c.plain m ls x=c.push [2]by simp [eH.plain,q]]
  exact nB h rfl (ag _) (by simp) (by omega)
 ·rw [show c.plain m ls x=((c.need (eQ x.op).2.2).fL (eQ x.op).1).push [(eQ x.op).2.1]by simp [eH.plain,q]]
  exact nB ((h.need _).fL _) (by rw [eH.ik];rfl) (eH.kV _ _) (by simp) (by omega)
theorem Jt {x:eP} (h:x.may) (hf:fC x.op=3):0 <=x.a/\x.a <=1000:=by
 obtain⟨_,_,h⟩:=h;rw [hf]at h;have h:fO x.a:=by simpa using h
 exact h
theorem sK (w1:World) (C:Nat) (u:eE) (m:eu) (lv:Value) (ls:List Int) (w:World) (c:eH) (x:eP) (al:Option Addr) (nl cl:Nat) (h:fU w1 C u m lv w c) (LF:gN c) (hr:oN w1 C u m lv ls) (Oi:m.short) (hv:c.dX.length <=50000) (hc:c.eM.length <=50000) (hm:x.may) (hx:x.ot):
  Calls prog 116 #[.pointer (some ⟨C,0,none⟩), .agg #[.int .i64 x.op, .int .i64 x.a, .int .i64 x.b, .slice al nl cl]] w (qj w1 C u m lv x c w):=by
 obtain⟨op,a,b,l⟩:=x;unfold eP.ot at hx;simp only at hx⊢;by_cases q0:op=0
 ·subst q0;exact KQ w1 C u m lv ls w c a b al nl cl l h LF hr Oi hv hc
 by_cases q1:op=2
 ·subst q1;exact Ld w1 C u m lv ls w c a b al nl cl l h LF hr Oi hv hc
 by_cases q2:op=11
 ·subst q2;exact J4 w1 C u m lv ls w c a b al nl cl l h LF hr Oi hv hc
 by_cases q3:op=12
 ·subst q3;exact Kd w1 C u m lv ls w c a b al nl cl l h LF hr Oi hv hc (Jt hm rfl)
 by_cases q4:op=16
 ·subst q4;exact Kn w1 C u m lv ls w c a b al nl cl l h LF hr Oi hv hc (Jt hm rfl)
 exact K8 w1 C u m lv w c op a b al nl cl l h (by omega)
theorem xv (w1:World) (C:Nat) (u:eE) (m:eu) (lv:Value) (ls:List Int) (w:World) (c:eH) (x:eP) (al:Option Addr) (nl cl:Nat) (h:fU w1 C u m lv w c) (LF:gN c) (hr:oN w1 C u m lv ls) (hv:c.dX.length <=50000) (hm:x.may) (hx:x.ot):
  Calls prog 117 #[.pointer (some ⟨C,0,none⟩), .agg #[.int .i64 x.op, .int .i64 x.a, .int .i64 x.b, .slice al nl cl]] w (nj w1 C u m lv (.tuple #[]) (eH.plain m ls c x)):=by
 obtain⟨op,a,b,l⟩:=x;unfold eP.ot at hx;simp only at hx⊢;by_cases q1:op=26
 ·subst q1;exact Lg w1 C u m lv ls w c a b al nl cl l h LF hr hv
 by_cases q2:op=32
 ·subst q2;exact K4 w1 C u m lv ls w c a b al nl cl l h LF hr hv (Jt hm rfl)
 by_cases q5:op=65
 ·subst q5;exact Lc w1 C u m lv ls w c a b al nl cl l h LF hr hv
 by_cases q6:op=66
 ·subst q6;exact KS w1 C u m lv ls w c a b al nl cl l h LF hr hv
 exact Lr w1 C u m lv ls w c op a b al nl cl l h LF hr hv (by omega)
theorem B7 {C:Nat} {w w':World} (h:Below w.heap.size w w') (hC:w.heap.size <=C):Ext w (rZ C w'):=by
 refine⟨fun a v e=>?_,by unfold rZ;rw [gX];exact h.size⟩;have LD:=aO w a e;have hb:(fun k=>k==C) a.block=false:=by
  have:a.block≠C:=by omega
  simp [this]
 have h2:(mask (fun k=>k==C) w').cell? a=w'.cell? a:=aX (ja w' hb);show(mask (fun k=>k==C) w').cell? a=some v;rw [h2,h.cell LD];exact e
theorem fU.new {w1:World} {C:Nat} {u:eE} {m:eu} {lv:Value} (h:eD w1 C (s8 u m lv (.slice none 0 0) (.slice none 0 0) false) 186):fU w1 C u m lv w1 ⟨[],[],false⟩:=
 ⟨_,_,h,dS.nil _ _,dS.nil _ _,dU.refl _ _,h.lt⟩
def Kt (m:eu) (ls:List Int) (c0:eH) (body:List eP) (c:eH) (i:Nat):Prop:=
 i <=body.length/\eH.run m ls c0 body=eH.run m ls c (body.drop i)/\gN c/\c.dX.length <=10*i/\c.eM.length <=i+1/\∃st N5,gB body (body.drop i) i st=some N5/\st.2.length+1=c.eM.length
theorem DJ (op n:Int):hU op (n+1)=hU op n+1/\hU op n <=n+1:=by
 unfold hU;split
 ·omega
 ·split <;>omega
theorem zy {m:eu} (Oi:m.short) {ls:List Int} {c0:eH} {body:List eP} {c:eH} {i:Nat} {x:eP} (h:Kt m ls c0 body c i) (hx:body[i]?=some x) (he:x.ot):
  ((c.step m ls x).bad=true ->eH.run m ls c0 body=none)/\((c.step m ls x).bad=false ->Kt m ls c0 body (c.step m ls x) (i+1)):=by
 obtain⟨h1,h2,h3,h4,h5,st,N5,h6,h7⟩:=h;obtain⟨hk,rfl⟩:=aG.1 hx;rw [cq hk]at h2 h6;rw [eH.run]at h2;rw [gB]at h6;obtain⟨s1,s2,s3⟩:=Hi Oi (ls:=ls) h3 body[i] he;refine⟨fun hb=>by rw [h2,aD hb],fun hb=>?_⟩;rw [az (by rw [hb];simp)]at h2;cases hs:gd body i body[i] st with
 | none=>rw [hs]at h6;cases h6
 | some Rr=>
  rw [hs]at h6;simp only [ao]at h6;obtain⟨d0,d1⟩:=qg hs;have hd:=DJ body[i].op st.2.length;rw [<- h7]at s2;rw [show((st.2.length+1:Nat):Int)=(st.2.length:Int)+1 by omega]at s2;refine⟨by omega,h2,⟨s1,?_⟩,by omega,by omega,Rr,N5,h6,by omega⟩;intro e;rw [e]at s2;simp only [aL]at s2;omega
def rf (t:gw):eH:=({dX:=[],eM:=[],bad:=false}:eH).begin 2 (t.results.head?.getD 0)
theorem DQ {m:eu} {ls:List Int} {t:gw} {body:List eP} {bs:List jP} (h:fJ body=some bs):Kt m ls (rf t) body (rf t) 0/\body.length <=300:=by
 unfold fJ at h;split at h
 ·cases h
 ·cases hg:gB body body 0 ([],[])with
  | none=>rw [hg]at h;cases h
  | some st=>exact⟨⟨bB _,rfl,⟨⟨by simp [rf,eH.begin],by simp [rf,eH.begin]⟩,by simp [rf,eH.begin]⟩,by simp [rf,eH.begin],by simp [rf,eH.begin],([],[]),st,hg,by simp [rf,eH.begin]⟩,by omega⟩
theorem nH (m:eu) (u:eE) (k:Int) (w:World) (hm:eo w u m) (Oi:m.short) (hx:∀c∈m.eh,c.locals.length <=100000/\∀x∈c.body,x.may/\x.ot):Calls prog 79 #[.agg (u.cells m), .int .i64 k] w (ew (gF m k) w):=by
 have HI:=V hm;have HSM:=V Oi;have RG:=V hx;obtain⟨a0,c0,a1,c1,a2,c2,a3,c3,a4,c4,a5,c5,a6,c6,a7,c7,rfl⟩:=eo.open hm;simp only [eE.cells];clear hm Oi hx;have LR:=(an w.heap.size w).alloc (ag _) (.cells #[.slice a0 m.types.length c0, .slice a1 m.imports.length c1, .slice a2 m.funcs.length c2, .bool m.table.has, .int .i64 m.table.min, .int .i64 m.table.max, .bool m.mem.has, .int .i64 m.mem.min, .int .i64 m.mem.max, .slice a3 m.globals.length c3, .slice a4 m.dY.length c4, .slice a5 m.elems.length c5, .slice a6 m.eh.length c6, .slice a7 m.eA.length c7] 35);have HB:=V (LR.alloc (by rw [aC];omega) (.cells #[.slice a0 m.types.length c0, .slice a1 m.imports.length c1, .slice a2 m.funcs.length c2, .bool m.table.has, .int .i64 m.table.min, .int .i64 m.table.max, .bool m.mem.has, .int .i64 m.mem.min, .int .i64 m.mem.max, .slice a3 m.globals.length c3, .slice a4 m.dY.length c4, .slice a5 m.elems.length c5, .slice a6 m.eh.length c6, .slice a7 m.eA.length c7, .slice none 0 0, .slice none 0 0, .slice none 0 0, .bool false] 186));clear LR;by_cases q1:k < 0
 ·have f1:decide (k < 0)=true:=ay q1
  have HF:Hid (gF m k=false):=V (by unfold gF;rw [if_pos (.inl q1)]);clear q1 HI;go_enter func79,ntmps79;go_wp2;go_ret;exact⟨by rw [HF.out];rfl,HB.out⟩
 obtain⟨k,rfl⟩:∃n:Nat,k=n:=⟨k.toNat,by omega⟩;have f1:decide ((k:Int) < 0)=false:=aw q1;by_cases q2:k < m.eh.length;rotate_left
 ·have f2:decide ((m.eh.length:Int) <=(k:Int))=true:=ay (by omega)
  have f3:decide (m.eh.length <=k)=true:=ay (by omega);have HF:Hid (gF m k=false):=V (by unfold gF;rw [if_pos (.inr (.inl (by omega)))]);clear q1 HI;go_enter func79,ntmps79;go_wp2;go_ret;exact⟨by rw [HF.out];rfl,HB.out⟩
 have f2:decide ((m.eh.length:Int) <=(k:Int))=false:=aw (by omega);have f3:decide (m.eh.length <=k)=false:=aw (by omega);by_cases q3:k < m.funcs.length;rotate_left
 ·have f4:decide ((m.funcs.length:Int) <=(k:Int))=true:=ay (by omega)
  have f5:decide (m.funcs.length <=k)=true:=ay (by omega);have HF:Hid (gF m k=false):=V (by unfold gF;rw [if_pos (.inr (.inr (by omega)))]);clear q1 HI;go_enter func79,ntmps79;go_wp2;go_ret;exact⟨by rw [HF.out];rfl,HB.out⟩
 have f4:decide ((m.funcs.length:Int) <=(k:Int))=false:=aw (by omega);have f5:decide (m.funcs.length <=k)=false:=aw (by omega);obtain⟨code,QB⟩:∃x,m.eh[k]?=some x:=⟨_,aq q2⟩;obtain⟨ft,hft⟩:∃x,m.funcs[k]?=some x:=⟨_,aq q3⟩;have HLL:=V (RG.out code (aN QB)).1;have RG:=V (RG.out code (aN QB)).2;have HF:=V (show gF m k=(if(typeOf m ft).2=false\/(fJ code.body).isSome=false then false
  else match eH.run m ((typeOf m ft).1.params++code.locals) (rf (typeOf m ft).1) code.body with
   | none=>false
   | some c=> !c.shut.2.bad&&decide (((typeOf m ft).1.params++code.locals).length <=32))by
  unfold gF rf;rw [az (by omega),cE,QB,hft];rfl)
 obtain⟨_,_,hv,_,_,Lt⟩:=HI.out.2.2.1;injection hv with e1 e2 e3;subst e1;obtain⟨b,off,rfl,-,LM⟩:=Lt k ft hft;have y0:=(Ext.dW HB.out).1 _ _ (LM 0 _ rfl);rw [aI,aY]at y0;clear e2 e3 Lt LM hft;have LV:=V ((eD.new w #[.slice a0 m.types.length c0, .slice a1 m.imports.length c1, .slice (some ⟨b,off,none⟩) m.funcs.length c2, .bool m.table.has, .int .i64 m.table.min, .int .i64 m.table.max, .bool m.mem.has, .int .i64 m.mem.min, .int .i64 m.mem.max, .slice a3 m.globals.length c3, .slice a4 m.dY.length c4, .slice a5 m.elems.length c5, .slice a6 m.eh.length c6, .slice a7 m.eA.length c7] 35).alloc (.cells #[.slice a0 m.types.length c0, .slice a1 m.imports.length c1, .slice (some ⟨b,off,none⟩) m.funcs.length c2, .bool m.table.has, .int .i64 m.table.min, .int .i64 m.table.max, .bool m.mem.has, .int .i64 m.mem.min, .int .i64 m.mem.max, .slice a3 m.globals.length c3, .slice a4 m.dY.length c4, .slice a5 m.elems.length c5, .slice a6 m.eh.length c6, .slice a7 m.eA.length c7, .slice none 0 0, .slice none 0 0, .slice none 0 0, .bool false] 186));have HCB0:=eD.new (w.alloc (.cells #[.slice a0 m.types.length c0, .slice a1 m.imports.length c1, .slice (some ⟨b,off,none⟩) m.funcs.length c2, .bool m.table.has, .int .i64 m.table.min, .int .i64 m.table.max, .bool m.mem.has, .int .i64 m.mem.min, .int .i64 m.mem.max, .slice a3 m.globals.length c3, .slice a4 m.dY.length c4, .slice a5 m.elems.length c5, .slice a6 m.eh.length c6, .slice a7 m.eA.length c7] 35)) #[.slice a0 m.types.length c0, .slice a1 m.imports.length c1, .slice (some ⟨b,off,none⟩) m.funcs.length c2, .bool m.table.has, .int .i64 m.table.min, .int .i64 m.table.max, .bool m.mem.has, .int .i64 m.mem.min, .int .i64 m.mem.max, .slice a3 m.globals.length c3, .slice a4 m.dY.length c4, .slice a5 m.elems.length c5, .slice a6 m.eh.length c6, .slice a7 m.eA.length c7, .slice none 0 0, .slice none 0 0, .slice none 0 0, .bool false] 186;rw [aC]at HCB0;have Pe:=V HCB0;clear HCB0;go_enter func79,ntmps79;go_wp2_with fail;obtain⟨wA,PL⟩:∃wA,wA=(w.alloc (.cells #[.slice a0 m.types.length c0, .slice a1 m.imports.length c1, .slice (some ⟨b,off,none⟩) m.funcs.length c2, .bool m.table.has, .int .i64 m.table.min, .int .i64 m.table.max, .bool m.mem.has, .int .i64 m.mem.min, .int .i64 m.mem.max, .slice a3 m.globals.length c3, .slice a4 m.dY.length c4, .slice a5 m.elems.length c5, .slice a6 m.eh.length c6, .slice a7 m.eA.length c7] 35)).alloc (.cells #[.slice a0 m.types.length c0, .slice a1 m.imports.length c1, .slice (some ⟨b,off,none⟩) m.funcs.length c2, .bool m.table.has, .int .i64 m.table.min, .int .i64 m.table.max, .bool m.mem.has, .int .i64 m.mem.min, .int .i64 m.mem.max, .slice a3 m.globals.length c3, .slice a4 m.dY.length c4, .slice a5 m.elems.length c5, .slice a6 m.eh.length c6, .slice a7 m.eA.length c7, .slice none 0 0, .slice none 0 0, .slice none 0 0, .bool false] 186):=⟨_,rfl⟩;rw [<- PL]at HB LV Pe⊢;have hAS:wA.heap.size=w.heap.size+2:=by rw [PL];simp
 clear PL y0;have HS:=V (fU.new (u:=⟨.slice a0 m.types.length c0, .slice a1 m.imports.length c1, .slice (some ⟨b,off,none⟩) m.funcs.length c2, .slice a3 m.globals.length c3, .slice a4 m.dY.length c4, .slice a5 m.elems.length c5, .slice a6 m.eh.length c6, .slice a7 m.eA.length c7⟩) (m:=m) (lv:= .slice none 0 0) Pe.out);have Ms:=V (show oN wA (w.heap.size+1) ⟨.slice a0 m.types.length c0, .slice a1 m.imports.length c1, .slice (some ⟨b,off,none⟩) m.funcs.length c2, .slice a3 m.globals.length c3, .slice a4 m.dY.length c4, .slice a5 m.elems.length c5, .slice a6 m.eh.length c6, .slice a7 m.eA.length c7⟩ m (.slice none 0 0) []from⟨HI.out.ext (B7 HB.out (by omega)),ee.nil _⟩);refine(nX wA (w.heap.size+1) _ m _ [] wA _ ft HS.out Ms.out).mono ?_;rintro e w2 ⟨v1,v2,rfl,Ou,MS,hb⟩;have hsh:=qS HSM.out ft;obtain⟨T,hT⟩:∃T,typeOf m ft=T:=⟨_,rfl⟩;rw [hT]at HF Ou MS hsh⊢;clear hT;obtain⟨⟨ps,rs⟩,ok⟩:=T;simp only at HF Ou MS hsh⊢;obtain⟨b1,k1,rfl,Oa,-,-⟩:=id Ou;obtain⟨b2,k2,rfl,LH,-,-⟩:=id MS;have HV1:=V Ou;have Ox:=V MS;have HSH:=V hsh;have Lw:=(an w2.heap.size w2).alloc (ag _) (.cells #[.slice b1 ps.length k1, .slice b2 rs.length k2] 69);have OB:=hb.size;have hb:=hb.trans (Lw.mono hb.size);have Pz:=V (eD.new w2 #[.slice b1 ps.length k1, .slice b2 rs.length k2] 69);have LV:=V (LV.out.below hb LV.out.lt);have Pe:=V (Pe.out.below hb Pe.out.lt);have HB:=V (HB.out.trans (hb.mono HB.out.size));have Rg:=V hb;have hT2:w.heap.size+2 <=w2.heap.size:=by omega
 clear Ou MS hsh hb Lw;obtain⟨bc,PA,⟨va,vb⟩,rfl,-,LM,Ml⟩:=ef.get HI.out.2.2.2.2.2.2.1 QB;have y0:=(Ext.dW HB.out).1 _ _ (LM 0 _ rfl);have y1:=(Ext.dW HB.out).1 _ _ (LM 1 _ rfl);rw [aI]at y0;have y2:=LV.out.mod.2.2.2.2.2.2.2.2.2.2.2.2.1;have L9:=V Ml;clear LM Ml;go_wp2_with fail;refine(pI _ code.body _ (gu.below L9.out.1.2 HB.out)).mono ?_;rintro e w3 ⟨hb,hmt⟩;have Pz:=V (Pz.out.below hb Pz.out.lt);have LV:=V (LV.out.below hb LV.out.lt);have Pe:=V (Pe.out.below hb Pe.out.lt);have HB:=V (HB.out.trans (hb.mono HB.out.size));have Rg:=V (Rg.out.trans (hb.mono Rg.out.size));clear y0 y1 y2;have OC:w2.heap.size < w3.heap.size:=Pz.out.lt;rcases hmt with⟨bs,bv,Qa,rfl,-⟩ | ⟨Qa,rfl⟩;rotate_left
 ·have HF2:=V (HF.out.trans (aD (.inr (by rw [Qa];rfl))))
  clear Qa hb;cases ok
  ·go_wp2
   go_ret;exact⟨by rw [HF2.out];rfl,HB.out⟩
  ·go_wp2
   go_ret;exact⟨by rw [HF2.out];rfl,HB.out⟩
 cases ok
 ·have HF:=V (HF.out.trans (aD (.inl rfl)))
  clear Qa hb;go_wp2;go_ret;exact⟨by rw [HF.out];rfl,HB.out⟩
 have HF:=V (HF.out.trans (az (by rw [Qa];simp)));have HJ0:=V (fun ls=>DQ (m:=m) (ls:=ls) (t:=⟨ps,rs⟩) Qa);clear Qa hb;have hml:m.eh.length <=9223372036854775807:=by
  obtain⟨_,_,_,h1,h2⟩:=ef.slice HI.out.2.2.2.2.2.2.1;omega
 obtain⟨bc',offc',⟨va',vb'⟩,PR,-,LM,Ml⟩:=ef.get HI.out.2.2.2.2.2.2.1 QB;injection PR with PR;injection PR with hab1 hab2;subst hab1 hab2;have L9:=V Ml;have y0:=(Ext.dW HB.out.drew).1 _ _ (LM 0 _ rfl);have y1:=LM 1 _ rfl;rw [aI]at y0;have Y1:=V y1;have Y0:=V (LM 0 _ rfl);clear LM Ml y1;have y2:=LV.out.drew.mod.2.2.2.2.2.2.2.2.2.2.2.2.1;have y3:=Pz.out.drew.two.1;have y4:w3.drew.cell? ⟨w.heap.size+1,14,none⟩=some (.slice none 0 0):=Pe.out.drew.cell 14;go_wp2_with fail;refine eK (fun w'=>w'.cell? ⟨w.heap.size+1,14,none⟩=some (.slice none 0 0)/\w'.cell? ⟨w2.heap.size,0,none⟩=some (.slice b1 ps.length k1)/\w'.cell? ⟨w.heap.size,12,none⟩=some (.slice (some ⟨bc,PA,none⟩) m.eh.length c6)/\w'.cell? ⟨bc,PA+k*2,none⟩=some va') 17 (up 0 7 (up 8 6 ((7,false)::(14,false)::(15,true)::(16,true)::[]))) (by kernel_rfl) (by kernel_rfl) ⟨y4,y3,y2,y0⟩ ?_;clear y0 y2 y3 y4;have HB:=V HB.out.drew;have Rg:=V Rg.out.drew;have LV:=V LV.out.drew;have Pz:=V Pz.out.drew;have Pe:=V Pe.out.drew;have hsz4:w2.heap.size < w3.drew.heap.size:=OC;clear OC;generalize w3.drew=w4 at HB Rg LV Pz Pe hsz4⊢;iterate 13 (first | (apply sk rfl rfl;simp only [pt]) | (apply dV rfl rfl rfl;·(rintro w' ⟨t0,t1,t2,t3⟩;go_wp2;exact⟨rfl,rfl,rfl⟩)))
 refine dZ rfl rfl ?_;go_wp2_with (first | (at_builtin;refine lQ w4 rfl _ _ rfl rfl w4.heap.size (.slice none 0 0) [] rfl (dS.nil _ _) (.slice b1 ps.length k1) ps rfl (HV1.out.ext ((xq Rg.out).trans (yQ _ _))) (by have:=HSH.out.1;simp only [aL];omega) (ag _) ?_));intro v5 w5 ho5 N7 Qq;have Mh:Below w4.heap.size w4 w5:=N7.below (ag _) (fun i hi=>by simp [ez,Value.ownBlock]at hi);have Rg:=V (Rg.out.trans (Mh.mono Rg.out.size));have HB:=V (HB.out.trans (Mh.mono HB.out.size));have LV:=V (LV.out.below Mh LV.out.lt);have Pz:=V (Pz.out.below Mh Pz.out.lt);have Pe:=V (Pe.out.below Mh Pe.out.lt);have H45:=V Mh;have HO5:=V (show dS 3 1 eU w5 w4.heap.size v5 ps from ho5);clear ho5 N7 Qq Mh;go_wp2_with fail;refine⟨⟨Pe.out.cell 14,Pz.out.two.1,LV.out.mod.2.2.2.2.2.2.2.2.2.2.2.2.1,(Ext.dW HB.out).1 _ _ Y0.out⟩,?_⟩;refine dZ rfl rfl ?_;go_wp2_with (first | (at_builtin;refine lQ w5 rfl _ _ rfl rfl w4.heap.size v5 ps rfl HO5.out va' code.locals rfl (L9.out.1.1.ext (Ext.dW HB.out)) (by have:=HSH.out.1;have:=HLL.out;omega) H45.out.size ?_));intro v6 w6 ho6 PG hs6;have Ny:Below w4.heap.size w5 w6:=PG.below H45.out.size (fun i hi=>(ey HO5.out hi).1);have Rg:=V (Rg.out.trans (Ny.mono (by have:=Rg.out.size;omega)));have HB:=V (HB.out.trans (Ny.mono (by omega)));have LV:=V (LV.out.below Ny (by omega));have Pz:=V (Pz.out.below Ny (by omega));have Pe:=V (Pe.out.below Ny (by omega));obtain⟨ls,hls⟩:∃ls,ps++code.locals=ls:=⟨_,rfl⟩;rw [hls]at ho6 HF;clear hls;obtain⟨av,cw,rfl,-,-⟩:=ho6.slice;have HO6:=V ho6;clear ho6 PG hs6 Ny;go_wp2_with fail;refine⟨⟨Pe.out.cell 14,Pz.out.two.1,LV.out.mod.2.2.2.2.2.2.2.2.2.2.2.2.1,(Ext.dW HB.out).1 _ _ Y0.out⟩,?_⟩;iterate 2 (first | (apply sk rfl rfl;simp only [pt]) | (apply dV rfl rfl rfl;·(rintro w' ⟨t0,t1,t2,t3⟩;go_wp2;exact⟨rfl,rfl,rfl⟩)))
 refine fu rfl rfl ?_;have c14:w6.cell? ⟨w.heap.size+1,14,none⟩=some (.slice none 0 0):=Pe.out.cell 14;have z14:=Pe.out.free 14;go_wp2;refine⟨trivial,?_⟩;refine aA ?_;have Lx:=ei w6 (w.heap.size+1) 14 (.slice av ls.length cw);have Ms:=V (show oN _ (w.heap.size+1) ⟨.slice a0 m.types.length c0, .slice a1 m.imports.length c1, .slice (some ⟨b,off,none⟩) m.funcs.length c2, .slice a3 m.globals.length c3, .slice a4 m.dY.length c4, .slice a5 m.elems.length c5, .slice (some ⟨bc,PA,none⟩) m.eh.length c6, .slice a7 m.eA.length c7⟩ m (.slice av ls.length cw) ls from⟨(HI.out.ext (B7 HB.out (by omega))).ext (pM Lx),(CK fm HO6.out (by omega)).ext (pM Lx)⟩);have LV:=V (LV.out.keeps Lx (by omega));have Pz:=V (Pz.out.keeps Lx (by omega));have HB:=V (HB.out.trans (Lx.below HB.out.size (fun i hi=>by omega)));have Ox:=V ((Ox.out.ext (xq Rg.out)).ext (tk Lx));have HS:=V (fU.new (u:=⟨.slice a0 m.types.length c0, .slice a1 m.imports.length c1, .slice (some ⟨b,off,none⟩) m.funcs.length c2, .slice a3 m.globals.length c3, .slice a4 m.dY.length c4, .slice a5 m.elems.length c5, .slice (some ⟨bc,PA,none⟩) m.eh.length c6, .slice a7 m.eA.length c7⟩) (m:=m) (lv:= .slice av ls.length cw) (Pe.out.set 14 (.slice av ls.length cw)));clear c14 z14 Lx;generalize w6.setCell ⟨w.heap.size+1,14,none⟩ (.slice av ls.length cw)=w7 at Ms LV Pz HB Ox HS⊢;clear Pe HO5 HO6 H45 Rg HSH HLL HV1 hsz4;have y3:=Pz.out.two.2.1;obtain⟨ab,cb,rfl,Mp,PW⟩:=ef.slice L9.out.1.2;obtain⟨k0,PC⟩:∃k0,rs.head?.getD 0=k0:=⟨_,rfl⟩;have HC0:=V (show rf ⟨ps,rs⟩=(⟨[],[],false⟩:eH).begin 2 k0 by unfold rf;rw [PC]);obtain⟨Pu,hb300⟩:=HJ0.out ls;have Pu:=V Pu;have HEX:=V (B7 (C:=w.heap.size+1) HB.out (by omega));have HNB:=V (L9.out.1.2.ext HEX.out);clear HJ0 L9;have f8:(0:Int) <=(rs.length:Int):=by omega
 by_cases q:rs.length=0
 ·have f6:decide ((0:Int) < (rs.length:Int))=false:=aw (by omega)
  have f7:decide (0 < rs.length)=false:=aw (by omega);have Oa:0=k0:=by rw [aH q]at PC;exact PC
  subst Oa;clear f8 q PC;go_wp2_with fail;refine(uq w7 (w.heap.size+1) _ m _ w7 _ 2 0 HS.out (by simp)).mono ?_;rintro e w8 ⟨rfl,hs⟩;rw [<- HC0.out]at hs;have hold:=hs.old;have LV:=V (LV.out.keeps hold (by omega));have HS:=V hs;have y2:=LV.out.mod.2.2.2.2.2.2.2.2.2.2.2.2.1;have y5:=hs.ext'.1 _ _ (HEX.out.1 _ _ Y1.out);clear hs y3 hold;go_wp2_with fail;clear y2 y5;refine eC (fun a' w'=>∃(c:eH) (i:Nat),a'=fr (gs a' 0 2 (.pointer (some ⟨w.heap.size,0,none⟩)::gs a' 3 2 (.pointer (some ⟨w.heap.size+1,0,none⟩)::gs a' 6 85 (.slice ab code.body.length cb:: .int .i64 code.body.length:: .int .i64 i::gs a' 94 30 []))))/\Kt m ls (rf ⟨ps,rs⟩) code.body c i/\fU w7 (w.heap.size+1) ⟨.slice a0 m.types.length c0, .slice a1 m.imports.length c1, .slice (some ⟨b,off,none⟩) m.funcs.length c2, .slice a3 m.globals.length c3, .slice a4 m.dY.length c4, .slice a5 m.elems.length c5, .slice (some ⟨bc,PA,none⟩) m.eh.length c6, .slice a7 m.eA.length c7⟩ m (.slice av ls.length cw) w' c) (fun a' _=>(code.body.length - (intOf (a'.tmps.getD 93 undef)).toNat)) ?_ ?_
  ·exact⟨_,0,rfl,Pu.out,HS.out⟩
  ·skip
   rintro R a' w1 ⟨c,i,Lv,hJ⟩ HR;dsimp only [fr,gs]at Lv;generalize slot a'=f at Lv;subst Lv;obtain⟨hfn,hs⟩:=hJ;have Pu:=V hfn;have HS:=V hs;obtain⟨hi1,LJ,LF,N6,QE,-⟩:=hfn;have Mv:=V LF;have hold:=hs.old;have Nw:=V (HB.out.trans (hold.below HB.out.size (fun i hi=>by omega)));clear hold LF;by_cases q:i < code.body.length;rotate_left
   ·obtain rfl:i=code.body.length:=by omega
    rw [List.drop_length,eH.run]at LJ;have HF:=V (show gF m k=(!c.shut.2.bad&&decide (ls.length <=32))by rw [HF.out,LJ]);clear LJ hs;go_wp2_with fail;refine(uR w7 (w.heap.size+1) _ m _ w1 c HS.out Mv.out).mono ?_;rintro e w10 ⟨rfl,LL,LH⟩;have Nw:=V (Nw.out.trans (LH.below Nw.out.size (fun i hi=>by omega)));obtain⟨-,-,-,-,-,-,c14,c17,-⟩:=LL.cell;obtain⟨bd,NN⟩:∃bd,c.shut.2.bad=bd:=⟨_,rfl⟩;rw [NN]at c17 HF;clear LL LH NN;cases bd
    ·by_cases q32:ls.length <=32
     ·have g1:decide ((ls.length:Int) <=32)=true:=ay (by omega)
      have g2:decide (ls.length <=32)=true:=ay q32;rw [g2]at HF;clear q32;go_wp2;go_ret;exact⟨by rw [HF.out];rfl,Nw.out⟩
     ·have g1:decide ((ls.length:Int) <=32)=false:=aw (by omega)
      have g2:decide (ls.length <=32)=false:=aw q32;rw [g2]at HF;clear q32;go_wp2;go_ret;exact⟨by rw [HF.out];rfl,Nw.out⟩
    ·go_wp2
     go_ret;exact⟨by rw [HF.out];rfl,Nw.out⟩
   obtain⟨x,hx⟩:∃x,code.body[i]?=some x:=⟨_,aq q⟩;obtain⟨MT,Pf⟩:=RG.out x (aN hx);have Lz:=V (zy HSM.out Pu.out hx Pf);obtain⟨bb,ob,un,rfl,-,hc,hu⟩:=ef.get HNB.out hx;obtain⟨⟨au,LB,rfl,-,-,-⟩,-⟩:=id hu;have y0:=hs.ext'.1 _ _ (hc 0 _ rfl);have y1:=hs.ext'.1 _ _ (hc 1 _ rfl);have y2:=hs.ext'.1 _ _ (hc 2 _ rfl);have y3:=hs.ext'.1 _ _ (hc 3 _ rfl);rw [aI]at y0;obtain⟨op,xa,xb,xl⟩:=x;have Ni:=V MT;have QC:=V Pf;have HX:=V (eD.new w1 #[.int .i64 op, .int .i64 xa, .int .i64 xb, .slice au xl.length LB] 39);have hC1:w.heap.size+1 < w1.heap.size:=hs.lt.1;clear hc hu MT Pf hx LJ hs Pu;go_wp2_with fail;refine(sK w7 (w.heap.size+1) _ m _ ls _ c ⟨op,xa,xb,xl⟩ au xl.length LB (HS.out.alloc _) Mv.out Ms.out HSM.out (by omega) (by omega) Ni.out QC.out).mono ?_;rintro e w10 (⟨c',MV,rfl,LL⟩ | ⟨MV,rfl,LL,LH⟩)
   ·have Na:c.step m ls ⟨op,xa,xb,xl⟩=c':=by unfold eH.step;rw [MV];rfl
    rw [Na]at Lz;clear MV Na y0 y1 y2 y3 hC1;have hold:=LL.old;have Nw:=V (HB.out.trans (hold.below HB.out.size (fun i hi=>by omega)));have HS:=V LL;have c17:=LL.cell.2.2.2.2.2.2.2.1;obtain⟨bd,NN⟩:∃bd,c'.bad=bd:=⟨_,rfl⟩;rw [NN]at c17 Lz;clear LL hold NN;cases bd
    ·have Pu:=V (Lz.out.2 rfl)
     clear Lz HX;go_wp2;refine HR.out _ _ ⟨_,i+1,rfl,Pu.out,HS.out⟩ ?_;simp [intOf];omega
    ·have hF:=HF.out
     rw [Lz.out.1 rfl]at hF;have HF:=V hF;clear hF;go_wp2;go_ret;exact⟨by rw [HF.out];rfl,Nw.out⟩
   ·have Na:c.step m ls ⟨op,xa,xb,xl⟩=c.plain m ls ⟨op,xa,xb,xl⟩:=by unfold eH.step;rw [MV];rfl
    rw [Na]at Lz;clear MV Na y0 y1 y2 y3;have HX:=V (HX.out.keeps LH (by omega));have HS:=V LL;have y0:=HX.out.cell 0;have y1:=HX.out.cell 1;have y2:=HX.out.cell 2;have y3:=HX.out.cell 3;simp only [aM,aJ,aT]at y0 y1 y2 y3;clear LL LH hC1;go_wp2_with fail;refine(xv w7 (w.heap.size+1) _ m _ ls _ c ⟨op,xa,xb,xl⟩ au xl.length LB HS.out Mv.out Ms.out (by omega) Ni.out QC.out).mono ?_;rintro e Pq ⟨rfl,LL⟩;clear y0 y1 y2 y3;obtain⟨c',MV⟩:∃c',c.plain m ls ⟨op,xa,xb,xl⟩=c':=⟨_,rfl⟩;rw [MV]at LL Lz;clear MV;have hold:=LL.old;have Nw:=V (HB.out.trans (hold.below HB.out.size (fun i hi=>by omega)));have HS:=V LL;have c17:=LL.cell.2.2.2.2.2.2.2.1;obtain⟨bd,NN⟩:∃bd,c'.bad=bd:=⟨_,rfl⟩;rw [NN]at c17 Lz;clear LL hold NN;cases bd
    ·have Pu:=V (Lz.out.2 rfl)
     clear Lz HX;go_wp2;refine HR.out _ _ ⟨_,i+1,rfl,Pu.out,HS.out⟩ ?_;simp [intOf];omega
    ·have hF:=HF.out
     rw [Lz.out.1 rfl]at hF;have HF:=V hF;clear hF;go_wp2;go_ret;exact⟨by rw [HF.out];rfl,Nw.out⟩
 ·have f6:decide ((0:Int) < (rs.length:Int))=true:=ay (by omega)
  have f7:decide (0 < rs.length)=true:=ay (by omega);have f9:0 < rs.length:=by omega
  have hr0:rs[0]?=some k0:=by
   rw [List.head?_eq_getElem?]at PC;rw [<- PC,aq f9];rfl
  obtain⟨_,_,hv,_,_,Lt⟩:=Ox.out;injection hv with e1 e2 e3;subst e1;have HMB9:=LV;have HB9:=HB;obtain⟨br,offr,rfl,-,LM⟩:=Lt 0 k0 hr0;have y6:=LM 0 _ rfl;rw [aI]at y6;have LV:=HMB9;have HB:=HB9;clear e2 e3 Lt LM hr0 f8 q PC;go_wp2_with fail;refine(uq w7 (w.heap.size+1) _ m _ w7 _ 2 k0 HS.out (by simp)).mono ?_;rintro e w8 ⟨rfl,hs⟩;rw [<- HC0.out]at hs;have hold:=hs.old;have LV:=V (LV.out.keeps hold (by omega));have HS:=V hs;have y2:=LV.out.mod.2.2.2.2.2.2.2.2.2.2.2.2.1;have y5:=hs.ext'.1 _ _ (HEX.out.1 _ _ Y1.out);clear hs y3 hold;go_wp2_with fail;clear y2 y5;refine eC (fun a' w'=>∃(c:eH) (i:Nat),a'=fr (gs a' 0 2 (.pointer (some ⟨w.heap.size,0,none⟩)::gs a' 3 2 (.pointer (some ⟨w.heap.size+1,0,none⟩)::gs a' 6 85 (.slice ab code.body.length cb:: .int .i64 code.body.length:: .int .i64 i::gs a' 94 30 []))))/\Kt m ls (rf ⟨ps,rs⟩) code.body c i/\fU w7 (w.heap.size+1) ⟨.slice a0 m.types.length c0, .slice a1 m.imports.length c1, .slice (some ⟨b,off,none⟩) m.funcs.length c2, .slice a3 m.globals.length c3, .slice a4 m.dY.length c4, .slice a5 m.elems.length c5, .slice (some ⟨bc,PA,none⟩) m.eh.length c6, .slice a7 m.eA.length c7⟩ m (.slice av ls.length cw) w' c) (fun a' _=>(code.body.length - (intOf (a'.tmps.getD 93 undef)).toNat)) ?_ ?_
  ·exact⟨_,0,rfl,Pu.out,HS.out⟩
  ·skip
   rintro R a' w1 ⟨c,i,Lv,hJ⟩ HR;dsimp only [fr,gs]at Lv;generalize slot a'=f at Lv;subst Lv;obtain⟨hfn,hs⟩:=hJ;have Pu:=V hfn;have HS:=V hs;obtain⟨hi1,LJ,LF,N6,QE,-⟩:=hfn;have Mv:=V LF;have hold:=hs.old;have Nw:=V (HB.out.trans (hold.below HB.out.size (fun i hi=>by omega)));clear hold LF;by_cases q:i < code.body.length;rotate_left
   ·obtain rfl:i=code.body.length:=by omega
    rw [List.drop_length,eH.run]at LJ;have HF:=V (show gF m k=(!c.shut.2.bad&&decide (ls.length <=32))by rw [HF.out,LJ]);clear LJ hs;go_wp2_with fail;refine(uR w7 (w.heap.size+1) _ m _ w1 c HS.out Mv.out).mono ?_;rintro e w10 ⟨rfl,LL,LH⟩;have Nw:=V (Nw.out.trans (LH.below Nw.out.size (fun i hi=>by omega)));obtain⟨-,-,-,-,-,-,c14,c17,-⟩:=LL.cell;obtain⟨bd,NN⟩:∃bd,c.shut.2.bad=bd:=⟨_,rfl⟩;rw [NN]at c17 HF;clear LL LH NN;cases bd
    ·by_cases q32:ls.length <=32
     ·have g1:decide ((ls.length:Int) <=32)=true:=ay (by omega)
      have g2:decide (ls.length <=32)=true:=ay q32;rw [g2]at HF;clear q32;go_wp2;go_ret;exact⟨by rw [HF.out];rfl,Nw.out⟩
     ·have g1:decide ((ls.length:Int) <=32)=false:=aw (by omega)
      have g2:decide (ls.length <=32)=false:=aw q32;rw [g2]at HF;clear q32;go_wp2;go_ret;exact⟨by rw [HF.out];rfl,Nw.out⟩
    ·go_wp2
     go_ret;exact⟨by rw [HF.out];rfl,Nw.out⟩
   obtain⟨x,hx⟩:∃x,code.body[i]?=some x:=⟨_,aq q⟩;obtain⟨MT,Pf⟩:=RG.out x (aN hx);have Lz:=V (zy HSM.out Pu.out hx Pf);obtain⟨bb,ob,un,rfl,-,hc,hu⟩:=ef.get HNB.out hx;obtain⟨⟨au,LB,rfl,-,-,-⟩,-⟩:=id hu;have y0:=hs.ext'.1 _ _ (hc 0 _ rfl);have y1:=hs.ext'.1 _ _ (hc 1 _ rfl);have y2:=hs.ext'.1 _ _ (hc 2 _ rfl);have y3:=hs.ext'.1 _ _ (hc 3 _ rfl);rw [aI]at y0;obtain⟨op,xa,xb,xl⟩:=x;have Ni:=V MT;have QC:=V Pf;have HX:=V (eD.new w1 #[.int .i64 op, .int .i64 xa, .int .i64 xb, .slice au xl.length LB] 39);have hC1:w.heap.size+1 < w1.heap.size:=hs.lt.1;clear hc hu MT Pf hx LJ hs Pu;go_wp2_with fail;refine(sK w7 (w.heap.size+1) _ m _ ls _ c ⟨op,xa,xb,xl⟩ au xl.length LB (HS.out.alloc _) Mv.out Ms.out HSM.out (by omega) (by omega) Ni.out QC.out).mono ?_;rintro e w10 (⟨c',MV,rfl,LL⟩ | ⟨MV,rfl,LL,LH⟩)
   ·have Na:c.step m ls ⟨op,xa,xb,xl⟩=c':=by unfold eH.step;rw [MV];rfl
    rw [Na]at Lz;clear MV Na y0 y1 y2 y3 hC1;have hold:=LL.old;have Nw:=V (HB.out.trans (hold.below HB.out.size (fun i hi=>by omega)));have HS:=V LL;have c17:=LL.cell.2.2.2.2.2.2.2.1;obtain⟨bd,NN⟩:∃bd,c'.bad=bd:=⟨_,rfl⟩;rw [NN]at c17 Lz;clear LL hold NN;cases bd
    ·have Pu:=V (Lz.out.2 rfl)
     clear Lz HX;go_wp2;refine HR.out _ _ ⟨_,i+1,rfl,Pu.out,HS.out⟩ ?_;simp [intOf];omega
    ·have hF:=HF.out
     rw [Lz.out.1 rfl]at hF;have HF:=V hF;clear hF;go_wp2;go_ret;exact⟨by rw [HF.out];rfl,Nw.out⟩
   ·have Na:c.step m ls ⟨op,xa,xb,xl⟩=c.plain m ls ⟨op,xa,xb,xl⟩:=by unfold eH.step;rw [MV];rfl
    rw [Na]at Lz;clear MV Na y0 y1 y2 y3;have HX:=V (HX.out.keeps LH (by omega));have HS:=V LL;have y0:=HX.out.cell 0;have y1:=HX.out.cell 1;have y2:=HX.out.cell 2;have y3:=HX.out.cell 3;simp only [aM,aJ,aT]at y0 y1 y2 y3;clear LL LH hC1;go_wp2_with fail;refine(xv w7 (w.heap.size+1) _ m _ ls _ c ⟨op,xa,xb,xl⟩ au xl.length LB HS.out Mv.out Ms.out (by omega) Ni.out QC.out).mono ?_;rintro e Pq ⟨rfl,LL⟩;clear y0 y1 y2 y3;obtain⟨c',MV⟩:∃c',c.plain m ls ⟨op,xa,xb,xl⟩=c':=⟨_,rfl⟩;rw [MV]at LL Lz;clear MV;have hold:=LL.old;have Nw:=V (HB.out.trans (hold.below HB.out.size (fun i hi=>by omega)));have HS:=V LL;have c17:=LL.cell.2.2.2.2.2.2.2.1;obtain⟨bd,NN⟩:∃bd,c'.bad=bd:=⟨_,rfl⟩;rw [NN]at c17 Lz;clear LL hold NN;cases bd
    ·have Pu:=V (Lz.out.2 rfl)
     clear Lz HX;go_wp2;refine HR.out _ _ ⟨_,i+1,rfl,Pu.out,HS.out⟩ ?_;simp [intOf];omega
    ·have hF:=HF.out
     rw [Lz.out.1 rfl]at hF;have HF:=V hF;clear hF;go_wp2;go_ret;exact⟨by rw [HF.out];rfl,Nw.out⟩
theorem mI {m:eu} {j:Nat} (h:jv m j=false):∀n,j <=n ->jv m n=false
 | 0,hn=>by
  obtain rfl:j=0:=by omega
  exact h
 | n+1,hn=>by
  rcases bx n j with h1 | h1
  ·obtain rfl:j=n+1:=by omega
   exact h
  ·rw [jv,mI h n h1]
   rfl
theorem eu.may.short {m:eu} (h:m.may):m.short:=fun t ht=>by
 obtain⟨h1,h2,-⟩:=h.1.2.1.1.1.2 t ht;omega
theorem eu.may.eh {m:eu} (h:m.may) (he:∀c∈m.eh,∀x∈c.body,x.ot):∀c∈m.eh,c.locals.length <=100000/\∀x∈c.body,x.may/\x.ot:=fun c hc=>by
 obtain⟨-,⟨h1,-⟩,-,h2⟩:=h.1.1.2.2 c hc;exact⟨by omega,fun x hx=>⟨h2 x hx,he c hc x hx⟩⟩
def iO (m:eu) (w:World) (e:Ending) (w':World):Prop:=e= .returned (.tuple #[.int .i64 (iW m), .bool (decide (iW m= -1))])/\Below w.heap.size w w'
theorem iO.mk {m:eu} {n:Int} {b:Bool} {w w':World} {e:Ending} (hf:iW m=n) (hb:decide (n= -1)=b) (h:Below w.heap.size w w') (he:e= .returned (.tuple #[.int .i64 n, .bool b])):iO m w e w':=⟨by rw [he,hf,hb],h⟩
theorem ee.take {α:Type} {k:Nat} {enc:α ->List Value} {w:World} {a:Option Addr} {n cap:Nat} {l:List α} (h:ee k enc w (.slice a n cap) l) (i:Nat) (hi:i <=l.length):ee k enc w (.slice a i cap) (l.take i):=by
 obtain⟨a',LQ,hv,h1,h2,h3⟩:=h;injection hv with e1 e2 e3;subst e1 e3;refine⟨a,cap,by rw [aP,cm hi],by rw [aP];omega,h2,fun j x hx=>h3 j x ?_⟩;rw [cQ]at hx;split at hx
 ·exact hx
 ·cases hx
theorem vQ (a:Option Addr) (len cap k:Nat) (h:k <=cap) (wx:World):
  (Instr.slice 30 (.slice a len cap) none (some (.int .i64 k)) none).run prog wx= .ok (.slice a k cap) wx:=by
 have hu:prog.underlying 30=some (.slice 75):=by kernel_rfl
 obtain⟨i0,hi,NM,ME,Nd⟩:=bV Ab;simp [Instr.slice,bj hu,Instr.sliceBounds,Instr.sliceBound,sizeOf,typeInfo,hi,asIntOf,h];cases a <;>simp [Addr.add]
theorem pE (m:eu) (u:eE) (w:World) (hm:eo w u m) (hs:m.words) (hn:m.imports.length+m.funcs.length <=1000000) (he:∀c∈m.eh,∀x∈c.body,x.ot):Calls prog 34 #[.agg (u.cells m)] w (iO m w):=by
 have HI:=V hm;have Q7:=V hs;have HE:=V he;obtain⟨a0,c0,a1,c1,a2,c2,a3,c3,a4,c4,a5,c5,a6,c6,a7,c7,rfl⟩:=eo.open hm;simp only [eE.cells];have hxl:m.dY.length <=9223372036854775807:=by
  obtain⟨_,_,_,h1,h2⟩:=fk hm.2.2.2.2.1;omega
 have hxc:m.dY.length <=c4:=by
  obtain⟨_,_,e,h1,h2⟩:=fk hm.2.2.2.2.1;injection e with e1 e2 e3;omega
 have Mi:m.eh.length <=9223372036854775807:=by
  obtain⟨_,_,_,h1,h2⟩:=ef.slice hm.2.2.2.2.2.2.1;omega
 clear hm hs he;have HX0:=eD.new w #[.slice a0 m.types.length c0, .slice a1 m.imports.length c1, .slice a2 m.funcs.length c2, .bool m.table.has, .int .i64 m.table.min, .int .i64 m.table.max, .bool m.mem.has, .int .i64 m.mem.min, .int .i64 m.mem.max, .slice a3 m.globals.length c3, .slice a4 m.dY.length c4, .slice a5 m.elems.length c5, .slice a6 m.eh.length c6, .slice a7 m.eA.length c7] 35;have LR:=(an w.heap.size w).alloc (ag _) (.cells #[.slice a0 m.types.length c0, .slice a1 m.imports.length c1, .slice a2 m.funcs.length c2, .bool m.table.has, .int .i64 m.table.min, .int .i64 m.table.max, .bool m.mem.has, .int .i64 m.mem.min, .int .i64 m.mem.max, .slice a3 m.globals.length c3, .slice a4 m.dY.length c4, .slice a5 m.elems.length c5, .slice a6 m.eh.length c6, .slice a7 m.eA.length c7] 35);have LG:=LR.alloc (by rw [aC];omega) (.cells #[.func (.func 68) #[] #[.pointer (some ⟨w.heap.size,0,none⟩)]] 117);have HS:=V (LG.alloc (by rw [aC,aC];omega) (.cells #[.func (.func 69) #[] #[.pointer (some ⟨w.heap.size,0,none⟩)]] 117));have HX:=V ((HX0.alloc (.cells #[.func (.func 68) #[] #[.pointer (some ⟨w.heap.size,0,none⟩)]] 117)).alloc (.cells #[.func (.func 69) #[] #[.pointer (some ⟨w.heap.size,0,none⟩)]] 117));have h4:=(eD.new (w.alloc (.cells #[.slice a0 m.types.length c0, .slice a1 m.imports.length c1, .slice a2 m.funcs.length c2, .bool m.table.has, .int .i64 m.table.min, .int .i64 m.table.max, .bool m.mem.has, .int .i64 m.mem.min, .int .i64 m.mem.max, .slice a3 m.globals.length c3, .slice a4 m.dY.length c4, .slice a5 m.elems.length c5, .slice a6 m.eh.length c6, .slice a7 m.eA.length c7] 35)) #[.func (.func 68) #[] #[.pointer (some ⟨w.heap.size,0,none⟩)]] 117).alloc (.cells #[.func (.func 69) #[] #[.pointer (some ⟨w.heap.size,0,none⟩)]] 117);have h5:=eD.new ((w.alloc (.cells #[.slice a0 m.types.length c0, .slice a1 m.imports.length c1, .slice a2 m.funcs.length c2, .bool m.table.has, .int .i64 m.table.min, .int .i64 m.table.max, .bool m.mem.has, .int .i64 m.mem.min, .int .i64 m.mem.max, .slice a3 m.globals.length c3, .slice a4 m.dY.length c4, .slice a5 m.elems.length c5, .slice a6 m.eh.length c6, .slice a7 m.eA.length c7] 35)).alloc (.cells #[.func (.func 68) #[] #[.pointer (some ⟨w.heap.size,0,none⟩)]] 117)) #[.func (.func 69) #[] #[.pointer (some ⟨w.heap.size,0,none⟩)]] 117;simp only [aC]at h4 h5;have H4:=V (show World.cell? _ ⟨w.heap.size+1,0,none⟩=some (.func (.func 68) #[] #[.pointer (some ⟨w.heap.size,0,none⟩)])from h4.cell 0);have H5:=V (show World.cell? _ ⟨w.heap.size+2,0,none⟩=some (.func (.func 69) #[] #[.pointer (some ⟨w.heap.size,0,none⟩)])from h5.cell 0);clear LR LG h4 h5 HX0;have HF:=V (iW.eq_1 m);go_enter func34,ntmps34;go_wp2_with fail;obtain⟨wB,hwB⟩:∃wB,wB=(((w.alloc (.cells #[.slice a0 m.types.length c0, .slice a1 m.imports.length c1, .slice a2 m.funcs.length c2, .bool m.table.has, .int .i64 m.table.min, .int .i64 m.table.max, .bool m.mem.has, .int .i64 m.mem.min, .int .i64 m.mem.max, .slice a3 m.globals.length c3, .slice a4 m.dY.length c4, .slice a5 m.elems.length c5, .slice a6 m.eh.length c6, .slice a7 m.eA.length c7] 35)).alloc (.cells #[.func (.func 68) #[] #[.pointer (some ⟨w.heap.size,0,none⟩)]] 117)).alloc (.cells #[.func (.func 69) #[] #[.pointer (some ⟨w.heap.size,0,none⟩)]] 117)):=⟨_,rfl⟩;rw [<- hwB]at HS HX H4 H5⊢;clear hwB;refine eC (fun a' w'=>∃(tw:Bool) (i:Nat),a'=fr (gs a' 0 1 (.pointer (some ⟨w.heap.size,0,none⟩)::gs a' 2 2 (.pointer (some ⟨w.heap.size+1,0,none⟩):: .pointer (some ⟨w.heap.size+2,0,none⟩):: .bool tw::gs a' 7 6 (.slice a4 m.dY.length c4:: .int .i64 m.dY.length:: .int .i64 i::gs a' 16 80 []))))/\i <=m.dY.length/\tw=mi m [] (m.dY.take i)/\Below wB.heap.size wB w') (fun a' _=>(m.dY.length - (intOf (a'.tmps.getD 15 undef)).toNat)) ?_ ?_
 ·exact⟨false,0,rfl,bB _,rfl,an _ _⟩
 ·skip
  rintro R a' w1 ⟨tw,i,Lv,hJ⟩ HR;dsimp only [fr,gs]at Lv;generalize slot a'=f at Lv;subst Lv;obtain⟨hi,htw,hb⟩:=hJ;replace HX:=V (HX.out.below hb HX.out.lt);replace HS:=V (HS.out.trans (hb.mono HS.out.size));replace H4:=V ((Ext.dW hb).1 _ _ H4.out);replace H5:=V ((Ext.dW hb).1 _ _ H5.out);have LK:=V hb;have HTW:=V htw;clear hb htw;by_cases q:i < m.dY.length;rotate_left
  ·obtain rfl:i=m.dY.length:=by omega
   replace HTW:=V (show tw=Bj m by rw [HTW.out,aU];rfl);clear q hi;obtain⟨g0,g1,g2,g3,g4,g5,g6,g7,g8,g9,L8,Mb,Mc,Md⟩:=HX.out.mod;go_wp2_with fail;refine(sW m ⟨.slice a0 m.types.length c0, .slice a1 m.imports.length c1, .slice a2 m.funcs.length c2, .slice a3 m.globals.length c3, .slice a4 m.dY.length c4, .slice a5 m.elems.length c5, .slice a6 m.eh.length c6, .slice a7 m.eA.length c7⟩ w1 (eo.below HI.out HS.out) Q7.out).mono ?_;rintro x w2 ⟨rfl,hb⟩;replace HX:=V (HX.out.below hb HX.out.lt);replace HS:=V (HS.out.trans (hb.mono HS.out.size));replace H4:=V ((Ext.dW hb).1 _ _ H4.out);replace H5:=V ((Ext.dW hb).1 _ _ H5.out);clear hb;clear g0 g1 g2 g3 g4 g5 g6 g7 g8 g9 L8 Mb Mc Md;obtain⟨g0,g1,g2,g3,g4,g5,g6,g7,g8,g9,L8,Mb,Mc,Md⟩:=HX.out.mod;by_cases q:m.may;rotate_left
   ·have f1:decide m.may=false:=aw q
    replace HF:=V (HF.out.trans (aD f1));rw [f1];clear q;go_wp2
    go_ret2
    exact iO.mk HF.out (by decide) HS.out rfl
   have Ni:=V q;have f1:decide m.may=true:=ay q;replace HF:=V (HF.out.trans (az (by rw [f1];simp)));rw [f1];clear q f1;go_wp2_with fail;refine(Aw (fun x=>mZ m x.type) _ m.imports _ (HI.out.2.1.ext (Ext.dW HS.out)) 74 #[.pointer (some ⟨w.heap.size+1,0,none⟩)] (fun _ _=>by rfl) (fun e _ w' hb=>AM m w.heap.size (w.heap.size+1) e w' a0 c0 ((Ext.dW hb).1 _ _ HX.out.mod.1) ((Ext.dW hb).1 _ _ H4.out))).mono ?_;rintro x w3 ⟨rfl,hb⟩;replace HX:=V (HX.out.below hb HX.out.lt);replace HS:=V (HS.out.trans (hb.mono HS.out.size));replace H4:=V ((Ext.dW hb).1 _ _ H4.out);replace H5:=V ((Ext.dW hb).1 _ _ H5.out);clear hb;clear g0 g1 g2 g3 g4 g5 g6 g7 g8 g9 L8 Mb Mc Md;obtain⟨g0,g1,g2,g3,g4,g5,g6,g7,g8,g9,L8,Mb,Mc,Md⟩:=HX.out.mod;obtain⟨r,hr⟩:∃r,(m.imports.any fun x=>mZ m x.type)=r:=⟨_,rfl⟩;rw [hr];cases r;rotate_left
   ·replace HF:=V (HF.out.trans (aD hr))
    clear hr;go_wp2
    go_ret2
    exact iO.mk HF.out (by decide) HS.out rfl
   replace HF:=V (HF.out.trans (az (fun h=>absurd (hr.symm.trans h) (by decide))));clear hr;have h4:=H4.out;go_wp2_with fail;clear h4;refine(qt (fun t=>mZ m t) _ m.funcs _ (HI.out.2.2.1.ext (Ext.dW HS.out)) 68 #[.pointer (some ⟨w.heap.size,0,none⟩)] (fun _ _=>by rfl) (fun e _ w' hb=>uZ m w.heap.size a0 c0 e w' ((Ext.dW hb).1 _ _ HX.out.mod.1))).mono ?_;rintro x w4 ⟨rfl,hb⟩;replace HX:=V (HX.out.below hb HX.out.lt);replace HS:=V (HS.out.trans (hb.mono HS.out.size));replace H4:=V ((Ext.dW hb).1 _ _ H4.out);replace H5:=V ((Ext.dW hb).1 _ _ H5.out);clear hb;clear g0 g1 g2 g3 g4 g5 g6 g7 g8 g9 L8 Mb Mc Md;obtain⟨g0,g1,g2,g3,g4,g5,g6,g7,g8,g9,L8,Mb,Mc,Md⟩:=HX.out.mod;obtain⟨r,hr⟩:∃r,(m.funcs.any fun t=>mZ m t)=r:=⟨_,rfl⟩;rw [hr];cases r;rotate_left
   ·replace HF:=V (HF.out.trans (aD hr))
    clear hr;go_wp2
    go_ret2
    exact iO.mk HF.out (by decide) HS.out rfl
   replace HF:=V (HF.out.trans (az (fun h=>absurd (hr.symm.trans h) (by decide))));clear hr;go_wp2_with fail;refine(tP m.table _).mono ?_;rintro x w5 ⟨rfl,hb⟩;replace HX:=V (HX.out.below hb HX.out.lt);replace HS:=V (HS.out.trans (hb.mono HS.out.size));replace H4:=V ((Ext.dW hb).1 _ _ H4.out);replace H5:=V ((Ext.dW hb).1 _ _ H5.out);clear hb;clear g0 g1 g2 g3 g4 g5 g6 g7 g8 g9 L8 Mb Mc Md;obtain⟨g0,g1,g2,g3,g4,g5,g6,g7,g8,g9,L8,Mb,Mc,Md⟩:=HX.out.mod;obtain⟨r,hr⟩:∃r,mc m.table=r:=⟨_,rfl⟩;rw [hr];cases r;rotate_left
   ·replace HF:=V (HF.out.trans (aD hr))
    clear hr;go_wp2
    go_ret2
    exact iO.mk HF.out (by decide) HS.out rfl
   replace HF:=V (HF.out.trans (az (fun h=>absurd (hr.symm.trans h) (by decide))));clear hr;go_wp2_with fail;refine(tP m.mem _).mono ?_;rintro x w6 ⟨rfl,hb⟩;replace HX:=V (HX.out.below hb HX.out.lt);replace HS:=V (HS.out.trans (hb.mono HS.out.size));replace H4:=V ((Ext.dW hb).1 _ _ H4.out);replace H5:=V ((Ext.dW hb).1 _ _ H5.out);clear hb;clear g0 g1 g2 g3 g4 g5 g6 g7 g8 g9 L8 Mb Mc Md;obtain⟨g0,g1,g2,g3,g4,g5,g6,g7,g8,g9,L8,Mb,Mc,Md⟩:=HX.out.mod;obtain⟨r,hr⟩:∃r,mc m.mem=r:=⟨_,rfl⟩;rw [hr];cases r;rotate_left
   ·replace HF:=V (HF.out.trans (aD hr))
    clear hr;go_wp2
    go_ret2
    exact iO.mk HF.out (by decide) HS.out rfl
   replace HF:=V (HF.out.trans (az (fun h=>absurd (hr.symm.trans h) (by decide))));clear hr;rw [HTW.out];obtain⟨r,hr⟩:∃r,Bj m=r:=⟨_,rfl⟩;rw [hr];cases r;rotate_left
   ·replace HF:=V (HF.out.trans (aD hr))
    clear hr;go_wp2
    go_ret2
    exact iO.mk HF.out (by decide) HS.out rfl
   replace HF:=V (HF.out.trans (az (fun h=>absurd (hr.symm.trans h) (by decide))));clear hr;by_cases qe:m.elems.length≠0/\m.table.has=false
   ·replace HF:=V (HF.out.trans (aD qe))
    have f1:decide ((0:Int) < (m.elems.length:Int))=true:=ay (by have:=qe.1;omega);have f2:decide (0 < m.elems.length)=true:=ay (by have:=qe.1;omega);rw [qe.2]at g3;clear qe;go_wp2
    go_ret2
    exact iO.mk HF.out (by decide) HS.out rfl
   replace HF:=V (HF.out.trans (az qe));by_cases q0:m.elems.length=0
   ·have f1:decide ((0:Int) < (m.elems.length:Int))=false:=aw (by omega)
    have f2:decide (0 < m.elems.length)=false:=aw (by omega);clear qe q0;go_wp2_with fail;clear f1 f2;refine(uS (fun x=>x.funcs.any fun f=>ln m f) _ m.elems _ (HI.out.2.2.2.2.2.1.ext (Ext.dW HS.out) (fun _ _ h=>h.ext (Ext.dW HS.out))) 78 #[.pointer (some ⟨w.heap.size+2,0,none⟩)] (fun _ _=>by rfl) (fun e _ u w' hb hu=>pT m w.heap.size (w.heap.size+2) e u w' a1 a2 c1 c2 ((Ext.dW hb).1 _ _ HX.out.mod.2.1) ((Ext.dW hb).1 _ _ HX.out.mod.2.2.1) hn ((Ext.dW hb).1 _ _ H5.out) hu)).mono ?_;rintro x w7 ⟨rfl,hb⟩;replace HX:=V (HX.out.below hb HX.out.lt);replace HS:=V (HS.out.trans (hb.mono HS.out.size));replace H4:=V ((Ext.dW hb).1 _ _ H4.out);replace H5:=V ((Ext.dW hb).1 _ _ H5.out);clear hb;clear g0 g1 g2 g4 g5 g6 g7 g8 g9 L8 Mb Mc Md;obtain⟨g0,g1,g2,g3',g4,g5,g6,g7,g8,g9,L8,Mb,Mc,Md⟩:=HX.out.mod;clear g3;have g3:=g3';clear g3';obtain⟨r,hr⟩:∃r,(m.elems.any fun x=>x.funcs.any fun f=>ln m f)=r:=⟨_,rfl⟩;rw [hr];cases r;rotate_left
    ·replace HF:=V (HF.out.trans (aD hr))
     clear hr;go_wp2
     go_ret2
     exact iO.mk HF.out (by decide) HS.out rfl
    replace HF:=V (HF.out.trans (az (fun h=>absurd (hr.symm.trans h) (by decide))));clear hr;go_wp2_with fail;clear g0 g1 g2 g3 g4 g5 g6 g7 g8 g9 L8 Mb Mc Md;refine eC (fun a' w'=>∃(i:Nat),a'=fr (gs a' 0 1 (.pointer (some ⟨w.heap.size,0,none⟩)::gs a' 2 75 (.int .i64 m.eh.length:: .int .i64 i::gs a' 79 17 [])))/\i <=m.eh.length/\jv m i=true/\Below w7.heap.size w7 w') (fun a' _=>(m.eh.length - (intOf (a'.tmps.getD 78 undef)).toNat)) ?_ ?_
    ·exact⟨0,rfl,bB _,rfl,an _ _⟩
    ·skip
     rintro R a' w8 ⟨i,Lv,hJ⟩ HR;dsimp only [fr,gs]at Lv;generalize slot a'=f at Lv;subst Lv;obtain⟨hi,P7,hb⟩:=hJ;replace HX:=V (HX.out.below hb HX.out.lt);replace HS:=V (HS.out.trans (hb.mono HS.out.size));replace H4:=V ((Ext.dW hb).1 _ _ H4.out);replace H5:=V ((Ext.dW hb).1 _ _ H5.out);have LK:=V hb;have HCF:=V P7;clear hb P7;obtain⟨g0,g1,g2,g3,g4,g5,g6,g7,g8,g9,L8,Mb,Mc,Md⟩:=HX.out.mod;by_cases q:i < m.eh.length
     ·go_wp2_with fail
      refine(nH m ⟨.slice a0 m.types.length c0, .slice a1 m.imports.length c1, .slice a2 m.funcs.length c2, .slice a3 m.globals.length c3, .slice a4 m.dY.length c4, .slice a5 m.elems.length c5, .slice a6 m.eh.length c6, .slice a7 m.eA.length c7⟩ i w8 (eo.below HI.out HS.out) Ni.out.short (Ni.out.eh HE.out)).mono ?_;rintro x w9 ⟨rfl,hb⟩;replace HX:=V (HX.out.below hb HX.out.lt);replace HS:=V (HS.out.trans (hb.mono HS.out.size));replace H4:=V ((Ext.dW hb).1 _ _ H4.out);replace H5:=V ((Ext.dW hb).1 _ _ H5.out);replace LK:=V (LK.out.trans (hb.mono LK.out.size));clear hb g0 g1 g2 g3 g4 g5 g6 g7 g8 g9 L8 Mb Mc Md;obtain⟨r,hr⟩:∃r,gF m i=r:=⟨_,rfl⟩;rw [hr];have HCN:=V (show jv m (i+1)=r by rw [jv,HCF.out,hr];rfl);clear hr;cases r
      ·replace HF:=V (HF.out.trans (aD (mI HCN.out _ (by omega))))
       go_wp2
       go_ret2
       exact iO.mk HF.out (by decide) HS.out rfl
      ·go_wp2
       refine HR.out _ _ ⟨i+1,rfl,by omega,HCN.out,LK.out⟩ ?_;simp [intOf];omega
     ·obtain rfl:i=m.eh.length:=by omega
      replace HF:=V (HF.out.trans (az (by rw [HCF.out];simp)));clear q hi HCF;by_cases qe:m.eA.length≠0/\m.mem.has=false
      ·replace HF:=V (HF.out.trans (aD qe))
       have f1:decide ((0:Int) < (m.eA.length:Int))=true:=ay (by have:=qe.1;omega);have f2:decide (0 < m.eA.length)=true:=ay (by have:=qe.1;omega);rw [qe.2]at g6;clear qe;go_wp2
       go_ret2
       exact iO.mk HF.out (by decide) HS.out rfl
      replace HF:=V (HF.out.trans (az qe));by_cases q0:m.eA.length=0
      ·have f1:decide ((0:Int) < (m.eA.length:Int))=false:=aw (by omega)
       have f2:decide (0 < m.eA.length)=false:=aw (by omega);clear qe q0;go_wp2
       go_ret2
       exact iO.mk HF.out (by decide) HS.out rfl
      ·have f1:decide ((0:Int) < (m.eA.length:Int))=true:=ay (by omega)
       have f2:decide (0 < m.eA.length)=true:=ay (by omega);have f3:m.mem.has=true:=by
        cases hh:m.mem.has with
        | true=>rfl
        | false=>exact absurd ⟨q0,hh⟩ qe
       rw [f3]at g6;clear qe q0 f3;go_wp2
       go_ret2
       exact iO.mk HF.out (by decide) HS.out rfl
   ·have f1:decide ((0:Int) < (m.elems.length:Int))=true:=ay (by omega)
    have f2:decide (0 < m.elems.length)=true:=ay (by omega);have f3:m.table.has=true:=by
     cases hh:m.table.has with
     | true=>rfl
     | false=>exact absurd ⟨q0,hh⟩ qe
    rw [f3]at g3;clear qe q0 f3;go_wp2_with fail;clear f1 f2;refine(uS (fun x=>x.funcs.any fun f=>ln m f) _ m.elems _ (HI.out.2.2.2.2.2.1.ext (Ext.dW HS.out) (fun _ _ h=>h.ext (Ext.dW HS.out))) 78 #[.pointer (some ⟨w.heap.size+2,0,none⟩)] (fun _ _=>by rfl) (fun e _ u w' hb hu=>pT m w.heap.size (w.heap.size+2) e u w' a1 a2 c1 c2 ((Ext.dW hb).1 _ _ HX.out.mod.2.1) ((Ext.dW hb).1 _ _ HX.out.mod.2.2.1) hn ((Ext.dW hb).1 _ _ H5.out) hu)).mono ?_;rintro x w7 ⟨rfl,hb⟩;replace HX:=V (HX.out.below hb HX.out.lt);replace HS:=V (HS.out.trans (hb.mono HS.out.size));replace H4:=V ((Ext.dW hb).1 _ _ H4.out);replace H5:=V ((Ext.dW hb).1 _ _ H5.out);clear hb;clear g0 g1 g2 g4 g5 g6 g7 g8 g9 L8 Mb Mc Md;obtain⟨g0,g1,g2,g3',g4,g5,g6,g7,g8,g9,L8,Mb,Mc,Md⟩:=HX.out.mod;clear g3;have g3:=g3';clear g3';obtain⟨r,hr⟩:∃r,(m.elems.any fun x=>x.funcs.any fun f=>ln m f)=r:=⟨_,rfl⟩;rw [hr];cases r;rotate_left
    ·replace HF:=V (HF.out.trans (aD hr))
     clear hr;go_wp2
     go_ret2
     exact iO.mk HF.out (by decide) HS.out rfl
    replace HF:=V (HF.out.trans (az (fun h=>absurd (hr.symm.trans h) (by decide))));clear hr;go_wp2_with fail;clear g0 g1 g2 g3 g4 g5 g6 g7 g8 g9 L8 Mb Mc Md;refine eC (fun a' w'=>∃(i:Nat),a'=fr (gs a' 0 1 (.pointer (some ⟨w.heap.size,0,none⟩)::gs a' 2 75 (.int .i64 m.eh.length:: .int .i64 i::gs a' 79 17 [])))/\i <=m.eh.length/\jv m i=true/\Below w7.heap.size w7 w') (fun a' _=>(m.eh.length - (intOf (a'.tmps.getD 78 undef)).toNat)) ?_ ?_
    ·exact⟨0,rfl,bB _,rfl,an _ _⟩
    ·skip
     rintro R a' w8 ⟨i,Lv,hJ⟩ HR;dsimp only [fr,gs]at Lv;generalize slot a'=f at Lv;subst Lv;obtain⟨hi,P7,hb⟩:=hJ;replace HX:=V (HX.out.below hb HX.out.lt);replace HS:=V (HS.out.trans (hb.mono HS.out.size));replace H4:=V ((Ext.dW hb).1 _ _ H4.out);replace H5:=V ((Ext.dW hb).1 _ _ H5.out);have LK:=V hb;have HCF:=V P7;clear hb P7;obtain⟨g0,g1,g2,g3,g4,g5,g6,g7,g8,g9,L8,Mb,Mc,Md⟩:=HX.out.mod;by_cases q:i < m.eh.length
     ·go_wp2_with fail
      refine(nH m ⟨.slice a0 m.types.length c0, .slice a1 m.imports.length c1, .slice a2 m.funcs.length c2, .slice a3 m.globals.length c3, .slice a4 m.dY.length c4, .slice a5 m.elems.length c5, .slice a6 m.eh.length c6, .slice a7 m.eA.length c7⟩ i w8 (eo.below HI.out HS.out) Ni.out.short (Ni.out.eh HE.out)).mono ?_;rintro x w9 ⟨rfl,hb⟩;replace HX:=V (HX.out.below hb HX.out.lt);replace HS:=V (HS.out.trans (hb.mono HS.out.size));replace H4:=V ((Ext.dW hb).1 _ _ H4.out);replace H5:=V ((Ext.dW hb).1 _ _ H5.out);replace LK:=V (LK.out.trans (hb.mono LK.out.size));clear hb g0 g1 g2 g3 g4 g5 g6 g7 g8 g9 L8 Mb Mc Md;obtain⟨r,hr⟩:∃r,gF m i=r:=⟨_,rfl⟩;rw [hr];have HCN:=V (show jv m (i+1)=r by rw [jv,HCF.out,hr];rfl);clear hr;cases r
      ·replace HF:=V (HF.out.trans (aD (mI HCN.out _ (by omega))))
       go_wp2
       go_ret2
       exact iO.mk HF.out (by decide) HS.out rfl
      ·go_wp2
       refine HR.out _ _ ⟨i+1,rfl,by omega,HCN.out,LK.out⟩ ?_;simp [intOf];omega
     ·obtain rfl:i=m.eh.length:=by omega
      replace HF:=V (HF.out.trans (az (by rw [HCF.out];simp)));clear q hi HCF;by_cases qe:m.eA.length≠0/\m.mem.has=false
      ·replace HF:=V (HF.out.trans (aD qe))
       have f1:decide ((0:Int) < (m.eA.length:Int))=true:=ay (by have:=qe.1;omega);have f2:decide (0 < m.eA.length)=true:=ay (by have:=qe.1;omega);rw [qe.2]at g6;clear qe;go_wp2
       go_ret2
       exact iO.mk HF.out (by decide) HS.out rfl
      replace HF:=V (HF.out.trans (az qe));by_cases q0:m.eA.length=0
      ·have f1:decide ((0:Int) < (m.eA.length:Int))=false:=aw (by omega)
       have f2:decide (0 < m.eA.length)=false:=aw (by omega);clear qe q0;go_wp2
       go_ret2
       exact iO.mk HF.out (by decide) HS.out rfl
      ·have f1:decide ((0:Int) < (m.eA.length:Int))=true:=ay (by omega)
       have f2:decide (0 < m.eA.length)=true:=ay (by omega);have f3:m.mem.has=true:=by
        cases hh:m.mem.has with
        | true=>rfl
        | false=>exact absurd ⟨q0,hh⟩ qe
       rw [f3]at g6;clear qe q0 f3;go_wp2
       go_ret2
       exact iO.mk HF.out (by decide) HS.out rfl
  obtain⟨x,hx⟩:∃x,m.dY[i]?=some x:=⟨_,aq q⟩;have HTN:=V (show mi m [] (m.dY.take (i+1))=(tw || yj m (m.dY.take i) x)by
   rw [aR,hx,HTW.out];exact rn m x _ _)
  obtain⟨_,_,hv,_,_,Lt⟩:=HI.out.2.2.2.2.1.ext (Ext.dW HS.out);injection hv with e1 e2 e3;subst e1;obtain⟨b,off,rfl,-,LM⟩:=Lt i x hx;have y0:=LM 0 _ rfl;have y1:=LM 1 _ rfl;rw [aI]at y0;clear e2 e3 Lt LM hx;obtain⟨xn,xf⟩:=x;have HXB:=V (eD.new w1 #[.string xn, .int .i64 xf] 75);have LG:=(an w1.heap.size w1).alloc (ag _) (.cells #[.string xn, .int .i64 xf] 75);cases tw
  ·have h5:=(Ext.dW LG).1 _ _ H5.out
   have hb:=LG;replace HX:=V (HX.out.below hb HX.out.lt);replace HS:=V (HS.out.trans (hb.mono HS.out.size));replace H4:=V ((Ext.dW hb).1 _ _ H4.out);replace H5:=V ((Ext.dW hb).1 _ _ H5.out);replace LK:=V (LK.out.trans (hb.mono LK.out.size));clear hb LG;go_wp2_with fail;refine(uK m w.heap.size a1 a2 c1 c2 xf _ HX.out.mod.2.1 HX.out.mod.2.2.1 hn).mono ?_;rintro e w2 ⟨rfl,hb⟩;replace HX:=V (HX.out.below hb HX.out.lt);replace HS:=V (HS.out.trans (hb.mono HS.out.size));replace H4:=V ((Ext.dW hb).1 _ _ H4.out);replace H5:=V ((Ext.dW hb).1 _ _ H5.out);replace LK:=V (LK.out.trans (hb.mono LK.out.size));replace HXB:=V (HXB.out.below hb HXB.out.lt);clear hb h5 y0 y1;obtain⟨r,hr⟩:∃r,ln m xf=r:=⟨_,rfl⟩;rw [hr];replace HTN:=V (show mi m [] (m.dY.take (i+1))=(r || (m.dY.take i).any fun y=>xn.toList==y.name.toList)by rw [HTN.out, <- hr];rfl);clear hr;cases r
   ·have L8:=HX.out.mod.2.2.2.2.2.2.2.2.2.2.1
    have MQ:=vQ (some ⟨b,off,none⟩) m.dY.length c4 i (by omega);go_wp2_with fail;refine(zo (fun y=>xn.toList==y.name.toList) _ (m.dY.take i) _ (ee.take (HI.out.2.2.2.2.1.ext (Ext.dW HS.out)) i hi) 71 #[.pointer (some ⟨w1.heap.size,0,none⟩)] (fun _ _=>by rfl) (fun e _ w' hb=>xJ ⟨xn,xf⟩ e w1.heap.size w' ((Ext.dW hb).1 _ _ (HXB.out.cell 0)))).mono ?_;rintro e w3 ⟨rfl,hb⟩;replace LK:=V (LK.out.trans (hb.mono LK.out.size));clear hb L8 MQ;obtain⟨r,hr⟩:∃r,((m.dY.take i).any fun y=>xn.toList==y.name.toList)=r:=⟨_,rfl⟩;rw [hr]at HTN⊢;clear hr;go_wp2;refine HR.out _ _ ⟨r,i+1,rfl,by omega,HTN.out.symm,LK.out⟩ ?_;simp [intOf];omega
   ·go_wp2
    refine HR.out _ _ ⟨true,i+1,rfl,by omega,HTN.out.symm,LK.out⟩ ?_;simp [intOf];omega
  ·replace LK:=V (LK.out.trans (LG.mono LK.out.size))
   clear LG;go_wp2;refine HR.out _ _ ⟨true,i+1,rfl,by omega,HTN.out.symm,LK.out⟩ ?_;simp [intOf];omega
end Go.Proofs.YtjmeglibedbljaaGreatDoor
