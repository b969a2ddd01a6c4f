/- The law diapause/diapauselaw15.RunNone, which takes no argument, returns true; a card: its listed variable is tied to the program's text. No condition. -/
import Derived.Test.YtjmeglibedbljaaGreatDoorRunNoneJ14
import Derived.Test.YtjmeglibedbljaaGreatDoorRows
import Derived.Test.YtjmeglibedbljaaGreatDoorCards
import Derived.Test.YtjmeglibedbljaaGreatDoorTie
import Derived.Below
import Derived.WalkKit
import Derived.ProofKit
import Derived.OpenShut
import Derived.ShutString
import Derived.LaidMore
import Derived.Stop.Joined
import Derived.SevenTiedAt
namespace Go.Proofs.YtjmeglibedbljaaGreatDoor.runNone
set_option maxRecDepth 100000
set_option maxHeartbeats 20000000
open Go.RowKit _root_.Go.Proofs.Tryz
open Lib renaming hid->V
set_option linter.all false
open Go.ChangeShapes Go.WideShapes Go.ChangeAt Go.WideMaps Go.WideElems Go.RowKit
set_option linter.unusedVariables false
theorem own:ownKnob prog.godebug=none:=by kernel_rfl
theorem EV (os:Os) (args:Array Value):laidMetH prog Rows.runNoneRow.laid ((World.doorLaid prog 14 os).forCall (fun _ _=>0) ⟨#[],args,[]⟩).memory:=
 laidMetH_of_parts3 (fuel:=8) (laidMet_of_run' 8 (by kernel_rfl) (by kernel_rfl)) (by kernel_rfl) (by kernel_rfl)
theorem lifted (os:Os) (started:os.Started) (H:Type) (enc:TypeId × Value ->H):
  ReturnsInHanded {} checked os 4 .any (fun w args=>(Rows.runNoneSpec.pre enc prog f4 [] false w args/\laidMetH prog Rows.runNoneRow.laid w)/\sizedMet enc prog f4 (OpenSpec.ofChange Rows.runNoneSpec) false w args)
   (Rows.runNoneSpec.post enc prog f4 false true false false):=by
 refine returnsInHanded_of_change_and (C:=checked) (X:=fun w _=>laidMetH prog Rows.runNoneRow.laid w) (fun _ _ _ hh h=>h.of_heap hh) own started (by kernel_rfl) func4
  (ChangeSpec.witness_shaped (enc:=enc) (C:=checked) (os:=os) (X:=fun w _=>laidMetH prog Rows.runNoneRow.laid w) false (World.doorLaid prog 14 os) #[] 8 rfl (World.shaped_of_RefB (by kernel_rfl) (by kernel_rfl)) (by kernel_rfl) (by kernel_rfl) (by kernel_rfl) (EV os _)) ?_
 intro W base args ds gs before hval0 hW _ _ hL _;have hval:∀(j:Nat) t v,f4.params[j]?=some t ->args[j]?=some v ->Value.okWide prog W .any base t v:=hval0;have hW':=hW;obtain⟨p,q,hA0,hV,rfl,hfz,hnd⟩:=hW;have hA:DataW.TrodAll enc prog W 0 (fun _=>true) true f4.params.toList args.toList ds p:=hA0;rw [params4]at hA hval;obtain⟨hargs,rfl,rfl⟩:=trodAll_nil hA;obtain rfl:args=#[]:=by cases args;simp_all
 obtain⟨rfl,rfl⟩:=trodVars_none hV;clear hA0 hval0;simp only [bO]at hW';refine(AL W).mono fun e W' ⟨he,bel⟩=>?_;subst he;exact⟨_,rfl,_,_,_,[],[],[],hW',trodAll_mk1 (shut_bool underlying4 _),trodAll_mk0,rfl,bel.frame _,fun h=>by cases h⟩
theorem closed:joinedFacts prog 4 f4 Rows.runNoneSpec Rows.runNoneRow=true:=by
 unfold joinedFacts;simp only [bG]
 repeat' apply And.intro
 all_goals as_aux_lemma=>kernel_rfl
theorem named:prog.funcNamed "diapause/diapauselaw15.RunNone"=some 4:=by kernel_rfl
theorem inst:f4.isInstance prog Rows.runNoneRow.origin Rows.runNoneRow.targs:=cD (by kernel_rfl)
theorem wrap:f4.isWrapper prog Rows.runNoneRow.wrapper Rows.runNoneRow.mainSum:=by unfold Func.isWrapper;first | (rw [if_pos (by decide+kernel)];kernel_rfl) | (rw [if_neg (by decide+kernel)];exact⟨rfl,rfl⟩)
theorem over:Rows.runNoneRow.holds Tryz.pinned (OpenSpec.ofChange Rows.runNoneSpec):=
 OpenClaim.holds_of_wide 4 f4 rfl rfl rfl rfl rfl rfl rfl ⟨rfl,rfl,rfl,rfl,rfl⟩ rfl rfl rfl rfl rfl named func4 closed inst wrap
  (fun os started H enc _=>lifted os started H enc)
theorem proved:Rows.RunNoneCardSaid:=
 Claim7.holds_tied_plain_at .later [] [.data] true Rows.runNoneCard.stood.harness false
  over (fun _ h=>by cases h) (by kernel_rfl) (fun _ h=>by cases h) runNone_row_tie rfl ⟨rfl,rfl⟩ (by kernel_rfl) rfl
  (fun f fn hf hfn=>by
   obtain rfl:f=4:=Option.some.inj ((show prog.funcNamed "diapause/diapauselaw15.RunNone"=some 4 by kernel_rfl).symm.trans hf) |>.symm;obtain rfl:fn=f4:=(Option.some.inj (func4.symm.trans hfn)).symm;exact⟨by kernel_rfl,fun j t ht=>by
    rw [params4]at ht;simp at ht⟩)
  (by kernel_rfl)
end Go.Proofs.YtjmeglibedbljaaGreatDoor.runNone
