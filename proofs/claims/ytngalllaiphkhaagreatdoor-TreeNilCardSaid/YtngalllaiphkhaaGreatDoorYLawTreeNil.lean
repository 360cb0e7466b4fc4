import Derived.Test.YtngalllaiphkhaaGreatDoorTie
import Derived.Test.YtngalllaiphkhaaGreatDoorCards
import Derived.Test.YtngalllaiphkhaaGreatDoorYRowTreeNil
import Derived.SevenTiedAt
namespace Go.Proofs.YtngalllaiphkhaaGreatDoor
set_option linter.unusedVariables false
set_option linter.unusedSimpArgs false
section
open Go.ChangeShapes Go.WideShapes Go.ChangeAt Go.RowKit Go.Deep
open Go.ChangeMaps (open_string shut_string)
theorem treeNil_over:Rows.treeNilRow.holds Tryz.pinned (OpenSpec.ofChange Rows.treeNilSpec) :=
 OpenClaim.holds_of_wide 8 Tryz.f8 rfl rfl rfl rfl rfl rfl rfl ⟨rfl,rfl,rfl,rfl,rfl⟩ rfl rfl rfl rfl rfl (by kernel_rfl) Tryz.func8 (by kernel_rfl)
  (of_decide_eq_true (by kernel_rfl)) (by unfold Func.isWrapper;first | (rw [if_pos (by decide +kernel)];kernel_rfl) | (rw [if_neg (by decide +kernel)];exact ⟨rfl,rfl⟩))
  (fun os started H enc _=>treeNil_lifted os started H enc)
theorem treeNil_holds:Rows.TreeNilCardSaid :=
 Claim7.holds_tied_plain_at .later [] [.data,.pinned] true (true, "201299f90b040039c496a637fab7a1d6cf3a7a6377044560d904bd4b24819554") false treeNil_over (fun _ h=>by cases h) (by kernel_rfl) (fun _ h=>by cases h) treeNil_row_tie rfl ⟨rfl,rfl⟩ (by kernel_rfl) rfl
  (fun f fn hf hfn=>by
   obtain rfl:f = 8:=Option.some.inj ((show Tryz.prog.funcNamed "binnacle/binnaclelaw09.TreeNil" = some 8 by kernel_rfl).symm.trans hf) |>.symm
   obtain rfl:fn = Tryz.f8:=(Option.some.inj (Tryz.func8.symm.trans hfn)).symm
   exact ⟨by kernel_rfl,fun j t ht=>by
    rw [Tryz.params8] at ht
    have hm:t ∈ [9, 3, 9]:=by simpa using Array.mem_of_getElem? ht
    have hall:([9, 3, 9].all fun u=>!Tryz.prog.wantsStandIn u) = true:=by kernel_rfl
    exact (show Tryz.prog.wantsStandIn t = false by simpa using List.all_eq_true.1 hall t hm)⟩)
  (by kernel_rfl)
#print axioms treeNil_holds
end
end Go.Proofs.YtngalllaiphkhaaGreatDoor
