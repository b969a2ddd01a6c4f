/- The law diapause/diapauselaw15.RunWorld returns true at every input, and its argument reads behind the call as it read before; a card: its listed variable is tied to the program's text. No condition. -/
import Derived.Test.YtjmeglibedbljaaGreatDoorRunWorldJ15
import Derived.Test.YtjmeglibedbljaaGreatDoorRows
import Derived.Test.YtjmeglibedbljaaGreatDoorCards
import Derived.Test.YtjmeglibedbljaaGreatDoorTie
import Derived.Below
import Derived.WalkKit
import Derived.ProofKit
import Derived.OpenShut
import Derived.ShutString
import Derived.LaidMore
import Derived.Stop.Joined
import Derived.SevenTiedAt
namespace Go.Proofs.YtjmeglibedbljaaGreatDoor.runWorld
set_option maxRecDepth 100000
set_option maxHeartbeats 20000000
open Go.RowKit _root_.Go.Proofs.Tryz
open Lib renaming hid->V
set_option linter.all false
open Go.ChangeShapes Go.WideShapes Go.ChangeAt Go.WideMaps Go.WideElems Go.RowKit
set_option linter.unusedVariables false
theorem own:ownKnob prog.godebug=none:=by kernel_rfl
theorem laidOut:laidOutB prog=true:=by kernel_rfl
theorem IM (os:Os) (args:Array Value):laidMetH prog Rows.runWorldRow.laid ((World.doorLaid prog 14 os).forCall (fun _ _=>0) ⟨#[],args,[]⟩).memory:=
 laidMetH_of_parts3 (fuel:=8) (laidMet_of_run' 8 (by kernel_rfl) (by kernel_rfl)) (by kernel_rfl) (by kernel_rfl)
theorem lifted (os:Os) (started:os.Started) (H:Type) (enc:TypeId × Value ->H):
  ReturnsInHanded {} checked os 3 .any (fun w args=>(Rows.runWorldSpec.pre enc prog f3 [] false w args/\laidMetH prog Rows.runWorldRow.laid w)/\sizedMet enc prog f3 (OpenSpec.ofChange Rows.runWorldSpec) false w args)
   (Rows.runWorldSpec.post enc prog f3 false true false false):=by
 refine returnsInHanded_of_change_and (C:=checked) (X:=fun w _=>laidMetH prog Rows.runWorldRow.laid w) (fun _ _ _ hh h=>h.of_heap hh) own started (by kernel_rfl) func3
  (ChangeSpec.witness_shaped (enc:=enc) (C:=checked) (os:=os) (X:=fun w _=>laidMetH prog Rows.runWorldRow.laid w) false (World.doorLaid prog 14 os) #[.slice none 0 0] 8 rfl (World.shaped_of_RefB (by kernel_rfl) (by kernel_rfl)) (by kernel_rfl) (by kernel_rfl) (by kernel_rfl) (IM os _)) ?_
 intro W base args ds gs before hval0 hW _ _ hL _;have hval:∀(j:Nat) t v,f3.params[j]?=some t ->args[j]?=some v ->Value.okWide prog W .any base t v:=hval0;have hW':=hW;obtain⟨p,q,hA0,hV,rfl,hfz,hnd⟩:=hW;have hA:DataW.TrodAll enc prog W 0 (fun _=>true) true f3.params.toList args.toList ds p:=hA0;rw [params3]at hA hval;obtain⟨v0,vs0,d0,ds0,p0,q0,hargs,rfl,rfl,h0,r0⟩:=trodAll_cons hA;obtain⟨rfl,rfl,rfl⟩:=trodAll_nil r0;obtain rfl:args=#[v0]:=by cases args;simp_all
 obtain⟨rfl,rfl⟩:=trodVars_none hV;have k0:=h0;have lt0:∀x∈p0,x.block < W.heap.size:=by obtain⟨m,hm⟩:=k0;exact DataW.trod_lt m _ _ _ hm
 obtain⟨a0,len0,cap0,hv0⟩:=okWide_slice underlying22 (hval 0 22 v0 rfl rfl);obtain⟨fuel0,hf0⟩:=h0;obtain⟨l0,w0⟩:=Fs hf0 (by rw [hv0];rfl);clear hA0 hval0;refine(yU l0 W v0 w0).mono fun e W' ⟨he,bel⟩=>?_;subst he;exact⟨_,rfl,_,_,_,[],_,[],hW',trodAll_mk1 (shut_bool underlying4 _),(trodAll_cons_mk (Below.trod laidOut (by kernel_rfl) (cD (by kernel_rfl)) k0 bel lt0) trodAll_mk0),rfl,bel.frame _,fun h=>by cases h⟩
theorem closed:joinedFacts prog 3 f3 Rows.runWorldSpec Rows.runWorldRow=true:=by
 unfold joinedFacts;simp only [bj]
 repeat' apply And.intro
 all_goals as_aux_lemma=>kernel_rfl
theorem named:prog.funcNamed "diapause/diapauselaw15.RunWorld"=some 3:=by kernel_rfl
theorem inst:f3.isInstance prog Rows.runWorldRow.origin Rows.runWorldRow.targs:=cD (by kernel_rfl)
theorem wrap:f3.isWrapper prog Rows.runWorldRow.wrapper Rows.runWorldRow.mainSum:=by unfold Func.isWrapper;first | (rw [if_pos (by decide+kernel)];kernel_rfl) | (rw [if_neg (by decide+kernel)];exact⟨rfl,rfl⟩)
theorem over:Rows.runWorldRow.holds Tryz.pinned (OpenSpec.ofChange Rows.runWorldSpec):=
 OpenClaim.holds_of_wide 3 f3 rfl rfl rfl rfl rfl rfl rfl ⟨rfl,rfl,rfl,rfl,rfl⟩ rfl rfl rfl rfl rfl named func3 closed inst wrap
  (fun os started H enc _=>lifted os started H enc)
theorem proved:Rows.RunWorldCardSaid:=
 Claim7.holds_tied_plain_at .later [] [.data] true Rows.runWorldCard.stood.harness false
  over (fun _ h=>by cases h) (by kernel_rfl) (fun _ h=>by cases h) runWorld_row_tie rfl ⟨rfl,rfl⟩ (by kernel_rfl) rfl
  (fun f fn hf To=>by
   obtain rfl:f=3:=Option.some.inj ((show prog.funcNamed "diapause/diapauselaw15.RunWorld"=some 3 by kernel_rfl).symm.trans hf) |>.symm;obtain rfl:fn=f3:=(Option.some.inj (func3.symm.trans To)).symm;exact⟨by kernel_rfl,fun j t ht=>by
    rw [params3]at ht;have hm:t∈[22]:=by simpa using Array.mem_of_getElem? ht
    have N5:([22].all fun u=> !prog.wantsStandIn u)=true:=by kernel_rfl
    exact(show prog.wantsStandIn t=false by simpa using List.all_eq_true.1 N5 t hm)⟩)
  (by kernel_rfl)
end Go.Proofs.YtjmeglibedbljaaGreatDoor.runWorld
