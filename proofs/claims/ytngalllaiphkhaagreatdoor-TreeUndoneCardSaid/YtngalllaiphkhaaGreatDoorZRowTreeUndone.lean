import Derived.Test.YtngalllaiphkhaaGreatDoorZTfK
import Derived.Test.YtngalllaiphkhaaGreatDoorZTfJ
import Derived.ProofKit
import Derived.LaidMore
import Derived.Lay
namespace Go.Proofs.YtngalllaiphkhaaGreatDoor
set_option maxRecDepth 100000
set_option maxHeartbeats 16000000
set_option linter.unusedVariables false
set_option linter.unusedSimpArgs false
section
open Go.ChangeShapes Go.WideShapes Go.ChangeAt Go.RowKit Go.Deep
open Go.ChangeMaps (open_string shut_string)
theorem treeUndone_lifted (os:Os) (started:os.Started) (H:Type) (enc:TypeId × Value -> H) :
 ReturnsInHanded {} Tryz.checked os 6 .any (fun w args=>(Rows.treeUndoneSpec.pre enc Tryz.prog Tryz.f6 Rows.treeUndoneRow.domain false w args /\ laidMetH Tryz.prog Rows.treeUndoneRow.laid w) /\ sizedMet enc Tryz.prog Tryz.f6 (OpenSpec.ofChange Rows.treeUndoneSpec) false w args)
  (Rows.treeUndoneSpec.post enc Tryz.prog Tryz.f6 false true false false):=by
 refine returnsInHanded_of_change_and (C:=Tryz.checked) (X:=fun w _=>laidMetH Tryz.prog Rows.treeUndoneRow.laid w) (fun _ _ _ hh h=>h.of_heap hh) Tryz.own started (by kernel_rfl) Tryz.func6
  (ChangeSpec.witness_shaped (enc:=enc) (C:=Tryz.checked) (os:=os) (X:=fun w _=>laidMetH Tryz.prog Rows.treeUndoneRow.laid w) false (World.laidAll Tryz.prog os Rows.treeUndoneRow.laid) #[.agg #[.slice none 0 0,.int .i64 0,.string ⟨#[]⟩,.int .i64 0]] 8 (World.laidAll_os _ _ _)
   (World.shaped_of_ZipB (by kernel_rfl) (by kernel_rfl)) (by kernel_rfl) (by kernel_rfl) (by kernel_rfl)
   (by rw [MakeChecks.laidMetH_plain _ _ _ (by kernel_rfl)];exact laidMet_laidAll _ (by kernel_rfl) (by kernel_rfl))) ?_
 intro W base args ds gs before hval0 hW g1 g2 g3 g4
 have hval:∀ (j:Nat) t v,Tryz.f6.params[j]? = some t -> args[j]? = some v -> Value.okWide Tryz.prog W .any base t v:=hval0
 have hW':=hW
 obtain ⟨p,q,hA0,hV,rfl,hfz,hnd⟩:=hW
 have hA:DataW.TrodAll enc Tryz.prog W 0 (fun _=>true) true Tryz.f6.params.toList args.toList ds p:=hA0
 rw [Tryz.params6] at hA hval
 obtain ⟨v0,vs0,d0,ds0,p0,q0,hargs,rfl,rfl,h0,r0⟩:=trodAll_cons hA
 obtain ⟨rfl,rfl,rfl⟩:=trodAll_nil r0
 obtain rfl:args = #[v0]:=by cases args;simp_all
 obtain ⟨rfl,rfl⟩:=trodVars_none hV
 have hsz:(DataW.weightsEach Tryz.prog [49] [d0]).all (· <= reachBytes) = true:=by first | exact g1 | exact g2 | exact g3 | exact g4
 obtain ⟨cs0,rfl,_⟩:=okWide_struct Tryz.underlying49 (hval 0 49 v0 rfl rfl)
 have k0:=h0
 have lt0:∀ x ∈ p0,x.block < W.heap.size:=by obtain ⟨m,hm⟩:=k0;exact DataW.trod_lt m _ _ _ hm
 have z0:∀ m ∈ d0.weights Tryz.prog 49,m <= reachBytes:=fun m hm=>by simpa using List.all_eq_true.1 hsz _ (DataW.weights_mem_each (j:=0) rfl rfl m hm)
 obtain ⟨ao0,cap0,acts0,xa,xb,xc,rfl,S0,B0⟩:=open_undone h0 z0
 clear hA0 hval0 g1 g2 g3 g4
 refine (treeUndone_calls xa xb xc S0 B0).mono fun e W' ⟨he,hfr⟩=>?_
 subst he
 have bel:Below W.heap.size W W':=hfr.below _ (Nat.le_refl _) (fun _ h=>h.elim)
 exact ⟨_,rfl,_,_,_,[],_,[],hW',trodAll_mk1 (shut_bool Tryz.underlying4 _),(trodAll_cons_mk (Below.trod Tryz.laidOut (by kernel_rfl) (of_decide_eq_true (by kernel_rfl)) k0 bel lt0) trodAll_mk0),rfl,bel.frame _,fun h=>by cases h⟩
end
end Go.Proofs.YtngalllaiphkhaaGreatDoor
