import Derived.Test.YtngalllaiphkhaaGreatDoorYVmA
import Derived.DeepKeys
import Derived.Laws.EntriesVeiled
namespace Go.Proofs.YtngalllaiphkhaaGreatDoor
open Go.RowKit
open Go.Lib (hid)
set_option maxRecDepth 100000
set_option maxHeartbeats 16000000
set_option linter.unusedVariables false
set_option linter.unusedSimpArgs false
section
open Go.RowKit Go.Shelf
attribute [local go_sem] Oper.semAt_some
abbrev hadA (cb hk m:Nat) (U:Nat -> Bool):Asr:=Star (blkA cb tBools [.slice (some ⟨hk,0,none⟩) m m]) (blkA hk tBool (boolL U m))
abbrev tFnIB:Nat:=106
def fnV (cb:Nat):Value:=.func (.func 172) #[] #[.pointer (some ⟨cb,0,none⟩)]
theorem eqItems_ints {P:Program} {e d:Nat} {k:IntKind} (hu:P.underlying e = some (.int k)) (hp:P.plainKey e = true) (W:World) (xs ys:Array Value) (f g:Nat -> Int):∀ is:List Nat,(∀ i ∈ is,xs[i * 1]? = some (.int .i64 (f i)) /\ ys[i * 1]? = some (.int .i64 (g i))) ->
 (Op.eqItems (d + 1) e 1 xs ys is).run P W = .ok (is.all fun i=>f i == g i) W
 | [],_=>by simp [Op.eqItems]
 | i :: is,h=>by
  have h1:=h i (List.mem_cons_self ..)
  have ih:=eqItems_ints (d:=d) hu hp W xs ys f g is (fun j hj=>h j (List.mem_cons_of_mem _ hj))
  simp only [Op.eqItems,Sem.run_bind,run_part_plain W hp h1.1,run_part_plain W hp h1.2,Result.andThen_ok,run_equalIn_int W d e .i64 k (f i) (g i) hu,List.all_cons]
  cases (f i == g i)
  ·simp
  ·simpa using ih
theorem Tryz.plainInt:Tryz.prog.plainKey 3 = true:=by kernel_rfl
theorem Tryz.cellsInt:Tryz.prog.cellsOf 3 = 1:=by kernel_rfl
theorem Tryz.eq6 (a0 a1 a2 a3 a4 a5:Nat) (W:World) :
 (Op.equalIn 9999 159 (.agg #[.int .i64 a0,.int .i64 a1,.int .i64 a2,.int .i64 a3,.int .i64 a4,.int .i64 a5]) (.agg #[.int .i64 0,.int .i64 0,.int .i64 0,.int .i64 0,.int .i64 0,.int .i64 0])).run Tryz.prog W = .ok (decide (a0 = 0 /\ a1 = 0 /\ a2 = 0 /\ a3 = 0 /\ a4 = 0 /\ a5 = 0)) W:=by
 obtain ⟨i,hi,_,_,_⟩:=info_parts Tryz.infoInt
 rw [show (9999:Nat) = 9998 + 1 from rfl,run_equalIn_array W 9998 _ _ Tryz.underlying159 hi,Tryz.cellsInt,show (9998:Nat) = 9997 + 1 from rfl,
  eqItems_ints Tryz.underlying3 Tryz.plainInt W _ _ (fun i=>(([a0,a1,a2,a3,a4,a5].getD i 0:Nat):Int)) (fun _=>0) (List.range 6) (fun i hi=>by
   have:i < 6:=List.mem_range.1 hi
   obtain rfl | rfl | rfl | rfl | rfl | rfl:i = 0 \/ i = 1 \/ i = 2 \/ i = 3 \/ i = 4 \/ i = 5:=by omega
   all_goals exact ⟨rfl,rfl⟩)]
 congr 1
 rw [Bool.eq_iff_iff]
 simp [List.range_succ]
section
variable {S0:Nat -> Prop} {w0 w w':World} {v b d xb bv bx cb hk rb fb m:Nat} {U:Nat -> Bool} {L:LSt} {B R H:Asr} {x:Ino} {c:Value}
theorem loc_had (cb hk m:Nat) (U:Nat -> Bool):Loc (hadA cb hk m U):=loc_star (loc_blk _ _ _) (loc_blk _ _ _)
abbrev owB (cb hk m rb:Nat) (U:Nat -> Bool) (c:Value) (B:Asr):Asr:=Star (hadA cb hk m U) (Star (blkA rb tBool [c]) B)
theorem loc_ow (hB:Loc B):Loc (owB cb hk m rb U c B):=loc_star (loc_had _ _ _ _) (loc_star (loc_blk _ _ _) hB)
theorem ow_in (h:VX S0 w0 v b d xb L x (Star (blkA rb tBool [c]) (Star (blkA cb tBools [.slice (some ⟨hk,0,none⟩) m m]) (Star (blkA hk tBool (boolL U m)) B))) w):VX S0 w0 v b d xb L x (owB cb hk m rb U c B) w :=
 h.map fun _ h=>star_right h fun _ h=>star_right h fun _ h=>star_right h fun _ h=>star_right h fun _ h=>star_assoc' (star_right (star_flip h) fun _ h=>star_flip h)
theorem ow_cells (h:VX S0 w0 v b d xb L x (Star H (Star (blkA rb tBool [c]) B)) w):Blk w xb tIno (inoL x) /\ Blk w rb tBool [c]:=by
 obtain ⟨_,⟨_,_,_,⟨_,_,_,⟨_,_,_,⟨_,_,h1,⟨_,_,_,⟨_,_,h2,_⟩,_⟩,_⟩,_⟩,_⟩,_⟩,_⟩:=h
 exact ⟨h1.1,h2.1⟩
theorem ow_set (h:VX S0 w0 v b d xb L x (Star H (Star (blkA rb tBool [c]) B)) w) (hH:Loc H) (hB:Loc B) (c':Value):VX S0 w0 v b d xb L x (Star H (Star (blkA rb tBool [c']) B)) (w.setCell ⟨rb,0,none⟩ c'):=by
 have h1:VX S0 w0 v b d xb L x (Star (blkA rb tBool [c]) (Star H B)) w:=h.map fun _ h=>star_right h fun _ h=>star_right h fun _ h=>star_right h fun _ h=>star_right h fun _ h=>star_flip h
 have h2:=(VX.out h1).turn (loc_AX (loc_star hH hB)) (turn_blk 0 c')
 exact (VX.inn h2).map fun _ h=>star_right h fun _ h=>star_right h fun _ h=>star_right h fun _ h=>star_right h fun _ h=>star_flip h
theorem ow_fin {F:Asr} (h:VX S0 w0 v b d xb L x (Star (hadA cb hk m U) (Star F B)) w):VV S0 w0 v b d L (Star (blkA hk tBool (boolL U m)) B) w :=
 h.map fun _ h=>star_right h fun _ h=>star_right h fun _ h=>star_right (star_less (star_right (star_less h) fun _ h=>star_assoc h)) fun _ h=>star_less h
theorem ow_fin2 {F G:Asr} (h:VX S0 w0 v b d xb L x (Star (hadA cb hk m U) (Star F (Star G B))) w):VV S0 w0 v b d L (Star (blkA hk tBool (boolL U m)) B) w :=
 (ow_fin h).map fun _ h=>star_right h fun _ h=>star_right h fun _ h=>star_right h fun _ h=>star_less h
def Pu (p:Prop) (A:Asr):Asr:=fun w S=>p /\ A w S
theorem loc_pu (p:Prop) {A:Asr} (h:Loc A):Loc (Pu p A):=fun w w' S T ⟨h1,h2⟩ hf hS=>⟨h1,h w w' S T h2 hf hS⟩
abbrev fbA (fb cb:Nat):Asr:=blkA fb tFnIB [fnV cb]
abbrev aw (v b d xb bv bx cb hk m rb fb:Nat) (U:Nat -> Bool) (L:LSt) (x:Ino) (c:Value) (p:Prop) (B:Asr):Asr:=AA v b d xb bv bx L x (owB cb hk m rb U c (Star (fbA fb cb) (Pu p B)))
theorem loc_aw {p:Prop} (hB:Loc B):Loc (aw v b d xb bv bx cb hk m rb fb U L x c p B):=loc_AA (loc_ow (loc_star (loc_blk _ _ _) (loc_pu _ hB)))
theorem aw_get {p:Prop} (h:Lv S0 w0 (Star R (aw v b d xb bv bx cb hk m rb fb U L x c p B)) w):p /\ Blk w xb tIno (inoL x) /\ Blk w rb tBool [c] /\ Blk w fb tFnIB [fnV cb]:=by
 obtain ⟨_,⟨_,_,_,⟨_,_,_,⟨_,_,_,⟨_,_,_,⟨_,_,h1,⟨_,_,_,⟨_,_,_,⟨_,_,_,⟨_,_,h2,⟨_,_,h3,h4,_⟩,_⟩,_⟩,_⟩,_⟩,_⟩,_⟩,_⟩,_⟩,_⟩,_⟩:=h
 exact ⟨h4.1,h1.1,h2.1,h3.1⟩
theorem aw_pu {p q:Prop} (h:Lv S0 w0 (Star R (aw v b d xb bv bx cb hk m rb fb U L x c p B)) w) (hpq:p -> q):Lv S0 w0 (Star R (aw v b d xb bv bx cb hk m rb fb U L x c q B)) w :=
 h.map fun _ h=>star_right h fun _ h=>star_right h fun _ h=>star_right h fun _ h=>star_right h fun _ h=>star_right h fun _ h=>star_right h fun _ h=>star_right h fun _ h=>star_right h fun _ h=>star_right h fun _ h=>star_right h fun _ ⟨h1,h2⟩=>⟨hpq h1,h2⟩
theorem aw_set {p:Prop} (h:Lv S0 w0 (Star R (aw v b d xb bv bx cb hk m rb fb U L x c p B)) w) (hR:Loc R) (hB:Loc B) (c':Value):Lv S0 w0 (Star R (aw v b d xb bv bx cb hk m rb fb U L x c' p B)) (w.setCell ⟨rb,0,none⟩ c'):=by
 have h1:Lv S0 w0 (Star R (AA v b d xb bv bx L x (Star (blkA rb tBool [c]) (Star (hadA cb hk m U) (Star (fbA fb cb) (Pu p B)))))) w :=
  h.map fun _ h=>star_right h fun _ h=>star_right h fun _ h=>star_right h fun _ h=>star_right h fun _ h=>star_right h fun _ h=>star_right h fun _ h=>star_right h fun _ h=>star_flip h
 have h2:=(bld_front h1).turn (loc_star hR (loc_AA (loc_star (loc_had _ _ _ _) (loc_star (loc_blk _ _ _) (loc_pu _ hB))))) (turn_blk 0 c')
 exact (bld_back h2).map fun _ h=>star_right h fun _ h=>star_right h fun _ h=>star_right h fun _ h=>star_right h fun _ h=>star_right h fun _ h=>star_right h fun _ h=>star_right h fun _ h=>star_flip h
theorem aw_own {p:Prop} (h:Lv S0 w0 (Star R (aw v b d xb bv bx cb hk m rb fb U L x c p B)) w) (hR:Loc R) (hB:Loc B) (i:Nat) :
 Calls Tryz.prog 172 #[.int .i64 i,.pointer (some ⟨cb,0,none⟩)] w fun e w'=>e = .returned (.bool (ownB m U i)) /\ Lv S0 w0 (Star R (aw v b d xb bv bx cb hk m rb fb (ownU m U i) L x c p B)) w' :=
 (own_calls (bld_front h).assoc (loc_star hR (loc_AA (loc_star (loc_blk _ _ _) (loc_star (loc_blk _ _ _) (loc_pu _ hB))))) i).mono fun _ _ ⟨h1,h2⟩=>⟨h1,bld_back h2.assoc'⟩
theorem aw_fin {p:Prop} (h:Lv S0 w0 (aw v b d xb bv bx cb hk m rb fb U L x c p B) w):VV S0 w0 v b d L (Star (blkA hk tBool (boolL U m)) B) w:=by
 have h1:VX S0 w0 v b d xb L x (owB cb hk m rb U c (Star (fbA fb cb) B)) w:=h.map fun _ h=>star_right h fun _ h=>star_right h fun _ h=>star_right h fun _ h=>star_less (star_less (star_right h fun _ h=>star_right h fun _ h=>star_right h fun _ h=>star_right h fun _ h=>star_right h fun _ h=>star_right h fun _ h=>h.2))
 exact ow_fin2 h1
theorem ow_had (h:VX S0 w0 v b d xb L x (Star (hadA cb hk m U) R) w) (hR:Loc R) (i:Nat) :
 Calls Tryz.prog 172 #[.int .i64 i,.pointer (some ⟨cb,0,none⟩)] w fun e w'=>e = .returned (.bool (ownB m U i)) /\ VX S0 w0 v b d xb L x (Star (hadA cb hk m (ownU m U i)) R) w' :=
 (own_calls (VX.out h).assoc (loc_AX hR) i).mono fun _ _ ⟨h1,h2⟩=>⟨h1,VX.inn h2.assoc'⟩
def GoodTo (m:Nat) (U:Nat -> Bool) (L:LSt) (x:Ino) (k:Nat):Prop:=(∀ i ∈ ownV L x k,9 <= i /\ i < m) /\ Apart U (ownV L x k)
theorem good_succ {m:Nat} {U:Nat -> Bool} {L:LSt} {x:Ino} {k:Nat} (h:GoodTo m U L x k) (ho:ownB m (marks U (ownV L x k)) (vat L x k) = true):GoodTo m U L x (k + 1):=by
 obtain ⟨h1,h2⟩:=ownB_iff.1 ho
 unfold GoodTo
 rw [ownV_succ]
 refine ⟨fun i hi=>?_,apart_snoc.2 ⟨h.2,h2⟩⟩
 rcases List.mem_append.1 hi with hi | hi
 ·exact h.1 i hi
 ·obtain rfl:=List.mem_singleton.1 hi;exact h1
theorem good_bad {m:Nat} {U:Nat -> Bool} {L:LSt} {x:Ino} {k n:Nat} (hk:k < n) (ho:ownB m (marks U (ownV L x k)) (vat L x k) = false):¬ GoodTo m U L x n:=fun h=>by
 have hpre:∃ l,ownV L x n = ownV L x (k + 1) ++ l:=⟨((List.range n).map (vat L x)).drop (k + 1),by
  unfold ownV
  rw [List.append_assoc]
  congr 1
  have:(List.range (k + 1)).map (vat L x) = ((List.range n).map (vat L x)).take (k + 1):=by rw [<- List.map_take,List.take_range,Nat.min_eq_left (by omega)]
  rw [this,List.take_append_drop]⟩
 obtain ⟨l,hl⟩:=hpre
 have h1:=h.1
 have h2:=h.2
 rw [hl] at h1 h2
 have h3:=apart_left h2
 rw [ownV_succ] at h3
 have h4:=(apart_snoc.1 h3).2
 have h5:=h1 (vat L x k) (List.mem_append_left _ (by rw [ownV_succ];exact List.mem_append_right _ (List.mem_singleton.2 rfl)))
 rw [ownB_iff.2 ⟨h5,h4⟩] at ho
 cases ho
theorem good_zero {m:Nat} {U:Nat -> Bool} {L:LSt} {x:Ino} (h:∀ i ∈ lastL x,(9 <= i /\ i < m) /\ U i = false):GoodTo m U L x 0:=by
 have e:ownV L x 0 = lastL x:=by unfold ownV;simp
 unfold GoodTo
 rw [e]
 refine ⟨fun i hi=>(h i hi).1,?_,fun i hi=>(h i hi).2⟩
 unfold lastL
 split
 ·exact List.nodup_cons.2 ⟨by simp,List.nodup_nil⟩
 ·exact List.nodup_nil
theorem owns_good {m:Nat} {U:Nat -> Bool} {L:LSt} {x:Ino} (h:OwnsP m L U x):GoodTo m U L x (sectorsP x.size):=⟨h.inn,h.apart⟩
def OwnsPost (S0:Nat -> Prop) (w0:World) (v b d hk m:Nat) (U:Nat -> Bool) (L:LSt) (x:Ino) (B:Asr) (e:Ending) (w':World):Prop :=
 (OwnsQ m L U x /\ e = .returned (.bool true) /\ VV S0 w0 v b d L (Star (blkA hk tBool (boolL (marks U (if x.kind = 0 then [] else ownV L x (sectorsP x.size))) m)) B) w') \/
 (¬ OwnsQ m L U x /\ e = .returned (.bool false) /\ ∃ U',VV S0 w0 v b d L (Star (blkA hk tBool (boolL U' m)) B) w')
theorem vowns_calls (hL:VV S0 w0 v b d L (Star (blkA hk tBool (boolL U m)) B) w) (hB:Loc B) (hkL:VOk L) (hx:x.Fits) :
 Calls Tryz.prog 125 #[.pointer (some ⟨v,0,none⟩),inoV x,.slice (some ⟨hk,0,none⟩) m m] w (OwnsPost S0 w0 v b d hk m U L x B):=by
 refine (callsIn_wide (n:=3)).1 ?_
 refine callsIn_of_wp_marks Tryz.func125 rfl trivial ?_ rfl
 simp only [Tryz.ntmps125,List.size_toArray,List.length_cons,List.length_nil,Nat.reduceAdd,Nat.reduceSub,Array.replicate_succ,Array.replicate_zero,List.push_toArray,List.append_toArray,List.nil_append,List.cons_append]
 rw [wpIn_wide]
 have l0:Loc (Star (blkA hk tBool (boolL U m)) B):=loc_star (loc_blk _ _ _) hB
 have b1:=VV.box hL l0 tIno (inoL x)
 have b2:=VX.box b1 l0 tBools [.slice (some ⟨hk,0,none⟩) m m]
 simp only [World.size_alloc] at b2
 have hv3:∀ c:Value,VX S0 w0 v b d w.heap.size L x (owB (w.heap.size + 1) hk m (w.heap.size + 1 + 1) U c B) (((w.alloc (.cells (inoL x).toArray tIno)).alloc (.cells #[.slice (some ⟨hk,0,none⟩) m m] tBools)).alloc (.cells #[c] tBool)):=fun c=>by
  have b3:=VX.box b2 (loc_star (loc_blk _ _ _) l0) tBool [c]
  simp only [World.size_alloc] at b3
  exact ow_in b3
 have HV3:=hid hv3
 have b3:=VX.box b2 (loc_star (loc_blk _ _ _) l0) tBool [.bool false]
 simp only [World.size_alloc] at b3
 obtain ⟨n0,hn0⟩:∃ n0,n0 = w.heap.size:=⟨_,rfl⟩
 rw [<- hn0] at b3
 obtain ⟨W1,hW1⟩:∃ W1,W1 = ((w.alloc (.cells (inoL x).toArray tIno)).alloc (.cells #[.slice (some ⟨hk,0,none⟩) m m] tBools)).alloc (.cells #[.bool false] tBool):=⟨_,rfl⟩
 have b4:VX S0 w0 v b d n0 L x (owB (n0 + 1) hk m (n0 + 1 + 1) U (.bool false) B) W1:=by rw [hW1];exact ow_in b3
 have HV:=hid b4
 have HW:=hid hW1
 have HN:=hid hn0
 have HB:=hid hB
 have HK:=hid hkL
 have HX:=hid hx
 clear b1 b2 b3 b4 hv3 hL l0 hkL hx
 have hbx:=(ow_cells HV.out).1
 have hbr:=(ow_cells HV.out).2
 have c0:=hbx.cell (j:=0) rfl
 have c1:=hbx.cell (j:=1) rfl
 have c2:=hbx.cell (j:=2) rfl
 have c3:=hbx.cell (j:=3) rfl
 have c4:=hbx.cell (j:=4) rfl
 have c5:=hbx.cell (j:=5) rfl
 have c6:=hbx.cell (j:=6) rfl
 have c7:=hbx.cell (j:=7) rfl
 have c8:=hbx.cell (j:=8) rfl
 have r0:=hbr.cell (j:=0) rfl
 have s0:=hbr.free 0
 rw [hW1,hn0] at c0 c1 c2 c3 c4 c5 c6 c7 c8 r0 s0
 rw [show inoV x = .agg #[.int .i64 x.kind,.int .i64 x.links,.int .i64 x.size,.int .i64 x.a0,.int .i64 x.a1,.int .i64 x.a2,.int .i64 x.a3,.int .i64 x.a4,.int .i64 x.a5] from rfl]
 clear hbx hbr
 by_cases hk0:x.kind = 0
 ·obtain ⟨kd,lk,sz,a0,a1,a2,a3,a4,a5⟩:=x
  simp only at hk0
  subst hk0
  by_cases hz:lk = 0
  ·subst hz
   by_cases hz:sz = 0
   ·subst hz
    by_cases hz:a0 = 0 /\ a1 = 0 /\ a2 = 0 /\ a3 = 0 /\ a4 = 0 /\ a5 = 0
    ·obtain ⟨rfl,rfl,rfl,rfl,rfl,rfl⟩:=hz
     have e:∀ W:World,(Op.equalIn 9999 159 (.agg #[.int .i64 0,.int .i64 0,.int .i64 0,.int .i64 0,.int .i64 0,.int .i64 0]) (.agg #[.int .i64 0,.int .i64 0,.int .i64 0,.int .i64 0,.int .i64 0,.int .i64 0])).run Tryz.prog W = .ok true W:=fun W=>(Tryz.eq6 0 0 0 0 0 0 W).trans (by simp)
     go_wp2_with fail
     have hE:=HV3.out (.bool true)
     refine ⟨.bool true,?_,.inl ⟨?_,rfl,?_⟩⟩
     ·simp [results,Tryz.f125,go_sem]
     ·unfold OwnsQ;rw [if_pos rfl];rfl
     ·rw [if_pos rfl,marks_nil]
      exact ow_fin hE
    ·have e:∀ W:World,(Op.equalIn 9999 159 (.agg #[.int .i64 a0,.int .i64 a1,.int .i64 a2,.int .i64 a3,.int .i64 a4,.int .i64 a5]) (.agg #[.int .i64 0,.int .i64 0,.int .i64 0,.int .i64 0,.int .i64 0,.int .i64 0])).run Tryz.prog W = .ok false W:=fun W=>by rw [Tryz.eq6,decide_eq_false hz]
     have HE:=hid hz
     clear hz
     go_wp2_with fail
     refine ⟨.bool false,?_,.inr ⟨fun h=>?_,rfl,U,?_⟩⟩
     ·simp [results,Tryz.f125,go_sem]
     ·unfold OwnsQ at h
      rw [if_pos rfl] at h
      simp only [Ino.free,Ino.mk.injEq] at h
      have:=HE.out
      omega
     ·have:=HV.out
      rw [hW1] at this
      exact ow_fin this
   ·have e:((sz:Int) == 0) = false:=by rw [beq_eq_false_iff_ne];omega
    have HE:Hid (sz ≠ 0):=hid hz
    clear hz
    go_wp2_with fail
    refine ⟨.bool false,?_,.inr ⟨fun h=>?_,rfl,U,?_⟩⟩
    ·simp [results,Tryz.f125,go_sem]
    ·unfold OwnsQ at h
     rw [if_pos rfl] at h
     simp only [Ino.free,Ino.mk.injEq] at h
     have:=HE.out
     omega
    ·have:=HV.out
     rw [hW1] at this
     exact ow_fin this
  ·have e:((lk:Int) == 0) = false:=by rw [beq_eq_false_iff_ne];omega
   have HE:Hid (lk ≠ 0):=hid hz
   clear hz
   go_wp2_with fail
   refine ⟨.bool false,?_,.inr ⟨fun h=>?_,rfl,U,?_⟩⟩
   ·simp [results,Tryz.f125,go_sem]
   ·unfold OwnsQ at h
    rw [if_pos rfl] at h
    simp only [Ino.free,Ino.mk.injEq] at h
    have:=HE.out
    omega
   ·have:=HV.out
    rw [hW1] at this
    exact ow_fin this
 ·have t0:((x.kind:Int) == 0) = false:=by rw [beq_eq_false_iff_ne];omega
  have HQ:Hid (OwnsQ m L U x ↔ OwnsP m L U x):=hid (by unfold OwnsQ;rw [if_neg hk0])
  have HK0:=hid hk0
  clear hk0
  by_cases hk2:2 < x.kind
  ·have HBAD:Hid (¬ OwnsQ m L U x):=hid fun h=>by have:=(HQ.out.1 h).kind;omega
   have k2:(2:Int) < (x.kind:Int):=by omega
   clear hk2
   go_wp2_with fail
   refine ⟨.bool false,?_,.inr ⟨HBAD.out,rfl,U,?_⟩⟩
   ·simp [results,Tryz.f125,go_sem]
   ·exact ow_fin (HV3.out (.bool false))
  have k2:¬ (2:Int) < (x.kind:Int):=by omega
  by_cases hz:2368 < x.size
  ·have HBAD:Hid (¬ OwnsQ m L U x):=hid fun h=>by have:=(HQ.out.1 h).size;omega
   have z2:(2368:Int) < (x.size:Int):=by omega
   clear hk2 hz
   go_wp2_with fail
   refine ⟨.bool false,?_,.inr ⟨HBAD.out,rfl,U,?_⟩⟩
   ·simp [results,Tryz.f125,go_sem]
   ·exact ow_fin (HV3.out (.bool false))
  have z2:¬ (2368:Int) < (x.size:Int):=by omega
  have HZ:Hid (x.size <= 2368):=hid (by omega)
  have HK2:Hid (x.kind <= 2):=hid (by omega)
  have HSE:=hid (vsectors_calls x.size (by omega))
  obtain ⟨n,hn⟩:∃ n,n = sectorsP x.size:=⟨_,rfl⟩
  rw [<- hn] at HSE
  have hn37:=sectors_le x.size HZ.out
  rw [<- hn] at hn37
  have H37:=hid hn37
  have HNN:=hid hn
  clear hk2 hz hn hn37
  go_wp2_with fail
  refine (HSE.out _).mono ?_
  rintro e w2 ⟨rfl,rfl⟩
  rw [show ((w.alloc (.cells #[.int .i64 x.kind,.int .i64 x.links,.int .i64 x.size,.int .i64 x.a0,.int .i64 x.a1,.int .i64 x.a2,.int .i64 x.a3,.int .i64 x.a4,.int .i64 x.a5] tIno)).alloc (.cells #[.slice (some ⟨hk,0,none⟩) m m] tBools)).alloc (.cells #[.bool false] tBool) = W1 from hW1.symm,<- hn0]
  have HW1:=hid hW1
  clear hW1 hn0
  clear c0 c1 c2 c3 c4 c5 c6 c7 c8 r0 s0
  obtain ⟨fb,hfb⟩:∃ fb,fb = W1.heap.size:=⟨_,rfl⟩
  have V2:VX S0 w0 v b d n0 L x (owB (n0 + 1) hk m (n0 + 1 + 1) U (.bool false) (Star (fbA fb (n0 + 1)) B)) (W1.alloc (.cells #[fnV (n0 + 1)] tFnIB)):=by
   have:=VX.box HV.out (loc_ow HB.out) tFnIB [fnV (n0 + 1)]
   rw [<- hfb] at this
   exact this.map fun _ h=>star_right h fun _ h=>star_right h fun _ h=>star_right h fun _ h=>star_right h fun _ h=>star_right (star_flip h) fun _ h=>star_flip h
  have HV2:=hid V2
  have hfb2:Blk (W1.alloc (.cells #[fnV (n0 + 1)] tFnIB)) fb tFnIB [fnV (n0 + 1)]:=by rw [hfb];exact Blk.new W1 tFnIB [fnV (n0 + 1)]
  have g0:=hfb2.cell (j:=0) rfl
  have g1:=hfb2.free 0
  unfold fnV at g0
  have y8:=(ow_cells HV2.out).1.cell (j:=3 + 5) rfl
  have r0:=(ow_cells HV2.out).2.cell (j:=0) rfl
  have s0:=(ow_cells HV2.out).2.free 0
  have l2:Loc (Star (blkA (n0 + 1 + 1) tBool [.bool false]) (Star (fbA fb (n0 + 1)) B)):=loc_star (loc_blk _ _ _) (loc_star (loc_blk _ _ _) HB.out)
  have HL2:=hid l2
  clear V2 hfb2 l2
  unfold fnV at y8 r0 s0 g1
  subst hfb
  by_cases hn5:5 < n
  ·have n5:(5:Int) < (n:Int):=by omega
   have n5':¬ (n:Int) <= 5:=by omega
   have hlast:lastL x = [x.a5]:=by unfold lastL;rw [<- HNN.out,if_pos hn5]
   have HLA:=hid hlast
   have HO:=hid (ow_had HV2.out HL2.out x.a5)
   clear hn5 hlast
   go_wp2_with fail
   refine HO.out.mono ?_
   rintro e w3 ⟨rfl,V3⟩
   unfold ownU at V3
   cases ho:ownB m U x.a5 with
   | false =>
    rw [ho,if_neg (by decide)] at V3
    have r3:=(ow_cells V3).2.cell (j:=0) rfl
    have s3:=(ow_cells V3).2.free 0
    have hE:=hid (ow_set V3 (loc_had _ _ _ _) (loc_star (loc_blk _ _ _) HB.out) (.bool false))
    have HBAD:Hid (¬ OwnsQ m L U x):=hid fun h=>by
     have h1:=HQ.out.1 h
     have hm5:x.a5 ∈ ownV L x (sectorsP x.size):=by unfold ownV;rw [HLA.out];simp
     rw [ownB_iff.2 ⟨h1.inn _ hm5,h1.apart.2 _ hm5⟩] at ho
     cases ho
    clear V3 ho HO g0 g1 y8 r0 s0
    go_wp2_with fail
    have hcl:=(ow_cells hE.out).2.cell (j:=0) rfl
    refine ⟨.bool false,?_,.inr ⟨HBAD.out,rfl,U,ow_fin2 hE.out⟩⟩
    simp [results,Tryz.f125,go_sem,hcl]
   | true =>
    rw [ho,if_pos rfl,<- HLA.out] at V3
    obtain ⟨ho1,ho2⟩:=ownB_iff.1 ho
    have HGO:Hid (GoodTo m U L x 0):=hid (good_zero (by rw [HLA.out];intro i hi;obtain rfl:=List.mem_singleton.1 hi;exact ⟨ho1,ho2⟩))
    have HV3b:=hid V3
    clear V3 ho HO g0 g1 y8 r0 s0 ho1 ho2 HV2 HL2
    have V5:=VX.box HV3b.out (loc_ow (loc_star (loc_blk _ _ _) HB.out)) tPVol [.pointer (some ⟨v,0,none⟩)]
    have V6:=VX.box V5 (loc_star (loc_blk _ _ _) (loc_ow (loc_star (loc_blk _ _ _) HB.out))) tPIno [.pointer (some ⟨n0,0,none⟩)]
    simp only [World.size_alloc] at V6
    have HV6:=hid V6
    clear V5 V6
    go_wp2_with fail
    refine (vall_calls _ _ _).mono ?_
    rintro e w4 ⟨rfl,rfl⟩
    generalize hWW:(w3.alloc (.cells #[.pointer (some ⟨v,0,none⟩)] tPVol)).alloc (.cells #[.pointer (some ⟨n0,0,none⟩)] tPIno) = W0
    obtain ⟨nb,hnb⟩:∃ nb,nb = w3.heap.size:=⟨_,rfl⟩
    have HW0:Hid (Lv S0 w0 (aw v b d n0 nb (nb + 1) (n0 + 1) hk m (n0 + 1 + 1) W1.heap.size (marks U (ownV L x 0)) L x (.bool false) (GoodTo m U L x 0) B) W0):=by
     have h1:ownV L x 0 = lastL x:=by unfold ownV;simp
     rw [h1,hnb,<- hWW]
     exact hid (HV6.out.map fun _ h=>star_right h fun _ h=>star_right h fun _ h=>star_right h fun _ h=>star_right h fun _ h=>star_right h fun _ h=>star_right h fun _ h=>star_right h fun _ h=>star_right h fun _ h=>star_right h fun _ h=>⟨HGO.out,h⟩)
    rw [<- hnb]
    clear HV6 hWW hnb HV3b
    go_wp2_with fail
    rw [<- wpIn_wide (n:=3)]
    refine wpIn_range_lv (S0:=S0) (w0:=w0) (F:=Fence.wide) (n:=3) rfl (by omega) (gf:=159) (lb:=#[.pointer (some ⟨nb + 1,0,none⟩),.pointer (some ⟨nb,0,none⟩)]) rfl trivial (enters_of Tryz.func159 (by kernel_rfl) rfl)
     (fun k=>aw v b d n0 nb (nb + 1) (n0 + 1) hk m (n0 + 1 + 1) W1.heap.size (marks U (ownV L x k)) L x (.bool false) (GoodTo m U L x k) B)
     (fun c k=>Pu (c = .ret /\ ¬ OwnsQ m L U x) (aw v b d n0 nb (nb + 1) (n0 + 1) hk m (n0 + 1 + 1) W1.heap.size (marks U (ownV L x k)) L x (.bool false) True B))
     (fun _=>loc_aw HB.out) (fun _ _=>loc_pu _ (loc_aw HB.out)) n (fun k=>#[.int .i64 k,.int .i64 (vat L x k:Nat)]) (fun _=>rfl) ?act1 HW0.out ?seq ?assign ?body ?done ?stop
    case seq =>
     intro l R St W hR hY hW
     exact vall1_calls H37.out (fun _=>L) (fun _=>x) (fun k=>owB (n0 + 1) hk m (n0 + 1 + 1) (marks U (ownV L x k)) (.bool false) (Star (fbA W1.heap.size (n0 + 1)) (Pu (GoodTo m U L x k) B))) HNN.out.symm (by have:=HZ.out;omega) (fun _=>loc_ow (loc_star (loc_blk _ _ _) (loc_pu _ HB.out))) (fun _ _=>HK.out) l R St W hR hY hW
    case assign =>
     intro l k W K hK
     gi_wp2
     exact hK
    case body =>
     intro l R k W hR hk hl
     obtain ⟨hgood,hbx,hbr,hbf⟩:=aw_get hl
     have g0:=hbf.cell (j:=0) rfl
     unfold fnV at g0
     have HO:=hid (aw_own hl hR HB.out (vat L x k))
     have HG:=hid hgood
     clear hl hgood hbx hbr hbf
     gi_wp2
     refine ⟨trivial,(callsIn_wide.2 HO.out).mono ?_⟩
     rintro e w5 ⟨rfl,L5⟩
     unfold ownU at L5
     cases ho:ownB m (marks U (ownV L x k)) (vat L x k) with
     | true =>
      rw [ho,if_pos rfl,marks_marks,<- ownV_succ] at L5
      have HE:=hid (aw_pu L5 fun h=>good_succ h ho)
      clear L5 ho HO
      gi_wp2
      exact .inl HE.out
     | false =>
      rw [ho,if_neg (by decide)] at L5
      have hbad:¬ OwnsQ m L U x:=fun h=>good_bad hk ho (by rw [HNN.out];exact owns_good (HQ.out.1 h))
      have r0:=(aw_get L5).2.2.1.cell (j:=0) rfl
      have s0:=(aw_get L5).2.2.1.free 0
      have HE:=hid (aw_set (aw_pu (q:=True) L5 fun _=>trivial) hR HB.out (.bool false))
      have HBAD:=hid hbad
      clear L5 ho HO hbad
      gi_wp2
      exact .inr ⟨.ret,rfl,HE.out.map fun _ h=>star_right h fun _ h=>⟨⟨rfl,HBAD.out⟩,h⟩⟩
    case stop =>
     intro D c k W hk hl
     obtain ⟨_,hp⟩:=hl.second
     obtain ⟨⟨rfl,hbad⟩,_⟩:=hp
     have HE:=hid (hl.map fun _ h=>star_right h fun _ h=>h.2)
     have HBAD:=hid hbad
     clear hl hbad
     gi_wp2
     have hE:=HE.out.shut (loc_aw HB.out)
     refine ⟨by simp,.inl ⟨_,_,rfl,run_takeDeferred HE.out.def_at,?_⟩⟩
     have hcl:=(aw_get (R:=Emp) (hE.map fun U h=>⟨Nob,U,trivial,h,fun _ h=>h.elim,fun _ h=>h.elim,fun _ h=>h⟩)).2.2.1.cell (j:=0) rfl
     refine ⟨.bool false,?_,.inr ⟨HBAD.out,rfl,_,aw_fin hE⟩⟩
     simp [results,Tryz.f125,go_sem,hcl]
    case done =>
     intro D W hl
     have HL9:=hid hl
     have HGN:=hid (aw_get hl).1
     clear hl HW0 HGO
     have n4:¬ (n:Int) < 5:=by omega
     have r0:=(aw_get HL9.out).2.2.1.cell (j:=0) rfl
     have s0:=(aw_get HL9.out).2.2.1.free 0
     have y8:=(aw_get HL9.out).2.1.cell (j:=3 + 5) rfl
     have HGT:=hid (vget_calls (VX.inn HL9.out) (loc_star (loc_blk _ _ _) (loc_star (loc_def D) (loc_star (loc_blk _ _ _) (loc_star (loc_blk _ _ _) (loc_ow (loc_star (loc_blk _ _ _) (loc_pu _ HB.out))))))) HK.out (x.a5:Nat))
     have hg64:=vget_size HK.out (x.a5:Nat)
     obtain ⟨st,hst⟩:∃ st,st = vget L (x.a5:Nat):=⟨_,rfl⟩
     rw [<- hst] at HGT hg64
     have HST:=hid hst
     have HG64:=hid hg64
     obtain ⟨q,hq⟩:∃ q,n = q + 5:=⟨n - 5,by omega⟩
     have HQ5:=hid hq
     have wq1:IntKind.i64.wrap ((n:Int) - 5) = (q:Int):=by have:=H37.out;rw [IntKind.wrap_i64] <;> omega
     have wq2:IntKind.i64.wrap (2 * (q:Int)) = 2 * (q:Int):=by have:=H37.out;rw [IntKind.wrap_i64] <;> omega
     clear hst hq hg64
     go_wp2_with fail
     go_loopw [11] (fun s11 wr=>s11 = .int .i64 n /\ wr = W) (fun _ _=>0)
     case atStart=>exact ⟨rfl,rfl⟩
     case round =>
      obtain ⟨rfl,hwr⟩:=hrel
      rw [hwr]
      clear hwr
      go_wp2_with fail
      refine HGT.out.mono ?_
      rintro e w6 ⟨rfl,L6⟩
      have L6:Lv S0 w0 (Star (defA D) (aw v b d n0 nb (nb + 1) (n0 + 1) hk m (n0 + 1 + 1) W1.heap.size (marks U (ownV L x n)) L x (.bool false) (GoodTo m U L x n) B)) w6:=VX.out L6
      have HL6:=hid L6
      have hb2:2 * q <= st.size:=by have:=HG64.out;have:=HQ5.out;have:=H37.out;omega
      have hsl:((2 * q:Nat):Int) = 2 * (q:Int):=by omega
      obtain ⟨t,ht⟩:∃ t,t = st.extract (2 * q) st.size:=⟨_,rfl⟩
      have ht':st.extract (2 * q) st.size = t:=ht.symm
      have HTT:=hid ht
      have htz:t.size <= 9223372036854775807:=by rw [ht,ByteArray.size_extract];have:=HG64.out;omega
      have HTR:=hid (fun W=>Tryz.strings_Trim_one t 0 (by decide) W htz)
      have HGN2:=hid HGN.out
      have htz2:(∀ y ∈ t.data.toList,y = 0) ↔ ∀ k,q <= k -> k < 32 -> twoAt st (2 * k) = 0:=by
       rw [ht,HG64.out];exact zero_twos HG64.out
      have HZT:=hid htz2
      clear L6 ht htz HGT htz2
      go_wp2_with fail
      refine (HTR.out _).mono ?_
      rintro e w7 ⟨rfl,hw7⟩
      have HL7:Hid (Lv S0 w0 (Star (defA D) (aw v b d n0 nb (nb + 1) (n0 + 1) hk m (n0 + 1 + 1) W1.heap.size (marks U (ownV L x n)) L x (.bool false) (GoodTo m U L x n) B)) w7):=by
       rcases hw7 with rfl | rfl
       ·exact HL6
       ·exact hid (HL6.out.drew (loc_star (loc_def D) (loc_aw HB.out)))
      have r7:=(aw_get HL7.out).2.2.1.cell (j:=0) rfl
      have s7:=(aw_get HL7.out).2.2.1.free 0
      obtain ⟨T,hT⟩:∃ T:ByteArray,T = ⟨(Lib.trimB t.data.toList 0).toArray⟩:=⟨_,rfl⟩
      rw [<- hT]
      have hemp:T.toList.isEmpty = decide (T = ⟨#[]⟩):=by
       rw [<- bytes_beq T ⟨#[]⟩,show (⟨#[]⟩:ByteArray).toList = [] from by kernel_rfl]
       cases T.toList <;> rfl
      have hdn:decide ((n:Int) <= 5) = false:=decide_eq_false (by omega)
      have HDN:=hid hdn
      have HEM:=hid hemp
      have hTe:T = ⟨#[]⟩ ↔ ∀ k,q <= k -> k < 32 -> twoAt st (2 * k) = 0:=by
       rw [<- HZT.out,<- trim_zero,hT]
       constructor
       ·intro h
        have:=congrArg (fun s:ByteArray=>s.data.toList) h
        simpa using this
       ·intro h;rw [h]
      have HTE:=hid hTe
      have hvat:∀ k,5 <= k -> vat L x k = twoAt st (2 * (k - 5)):=fun k hk=>by
       unfold vat;rw [if_neg (by omega),HST.out]
      have HVAT:=hid hvat
      clear hT hTe hvat hw7 hdn hemp
      by_cases hTT:T = ⟨#[]⟩
      ·have hOK:OwnsQ m L U x:=HQ.out.2 ⟨HK2.out,HZ.out,fun h=>by have:=HNN.out;omega,by rw [<- HNN.out];exact HGN2.out.1,by rw [<- HNN.out];exact HGN2.out.2,fun k h1 h2=>by have:=HNN.out;omega,fun _ k h1 h2=>by
        rw [HVAT.out k (by have:=HNN.out;omega)]
        exact HTE.out.1 hTT (k - 5) (by have:=HNN.out;have:=HQ5.out;omega) (by omega)⟩
       have HOK:=hid hOK
       have hem:T.toList.isEmpty = true:=by rw [HEM.out,decide_eq_true hTT]
       have HEM2:=hid hem
       clear hOK hTT hem
       go_wp2_with fail
       rw [HDN.out,HEM2.out,Bool.or_true]
       have hZ:=aw_set HL7.out (loc_def D) HB.out (.bool true)
       refine ⟨by simp,.inl ⟨_,_,rfl,run_takeDeferred hZ.def_at,?_⟩⟩
       have hE:=hZ.shut (loc_aw HB.out)
       have hcl:=(aw_get (R:=Emp) (hE.map fun U h=>⟨Nob,U,trivial,h,fun _ h=>h.elim,fun _ h=>h.elim,fun _ h=>h⟩)).2.2.1.cell (j:=0) rfl
       refine ⟨.bool true,?_,.inl ⟨HOK.out,rfl,?_⟩⟩
       ·simp [results,Tryz.f125,go_sem,hcl]
       ·rw [if_neg HK0.out,<- HNN.out];exact aw_fin hE
      ·have HBAD:Hid (¬ OwnsQ m L U x):=hid fun h=>hTT (HTE.out.2 fun k h1 h2=>by
        have:=(HQ.out.1 h).tail (by rw [<- HNN.out];omega) (k + 5) (by rw [<- HNN.out];have:=HQ5.out;omega) (by omega)
        rw [HVAT.out (k + 5) (by omega)] at this
        rwa [show k + 5 - 5 = k by omega] at this)
       have hem:T.toList.isEmpty = false:=by rw [HEM.out,decide_eq_false hTT]
       have HEM2:=hid hem
       clear hTT hem
       go_wp2_with fail
       rw [HDN.out,HEM2.out,Bool.or_false]
       have hZ:=aw_set HL7.out (loc_def D) HB.out (.bool false)
       refine ⟨by simp,.inl ⟨_,_,rfl,run_takeDeferred hZ.def_at,?_⟩⟩
       have hE:=hZ.shut (loc_aw HB.out)
       have hcl:=(aw_get (R:=Emp) (hE.map fun U h=>⟨Nob,U,trivial,h,fun _ h=>h.elim,fun _ h=>h.elim,fun _ h=>h⟩)).2.2.1.cell (j:=0) rfl
       refine ⟨.bool false,?_,.inr ⟨HBAD.out,rfl,_,aw_fin hE⟩⟩
       simp [results,Tryz.f125,go_sem,hcl]
  ·have n5:(n:Int) <= 5:=by omega
   have n5':¬ (5:Int) < (n:Int):=by omega
   have hlast:lastL x = []:=by unfold lastL;rw [<- HNN.out,if_neg hn5]
   have HLA:=hid hlast
   by_cases hz5:x.a5 = 0
   ·have hz0:((x.a5:Int) != 0) = false:=by rw [hz5];rfl
    have HZ5:=hid hz5
    have HGO:Hid (GoodTo m U L x 0):=hid (good_zero (by rw [HLA.out];intro i hi;cases hi))
    have HV3b:Hid (VX S0 w0 v b d n0 L x (owB (n0 + 1) hk m (n0 + 1 + 1) (marks U (lastL x)) (.bool false) (Star (fbA W1.heap.size (n0 + 1)) B)) (W1.alloc (.cells #[fnV (n0 + 1)] tFnIB))):=by
     rw [HLA.out,marks_nil];exact HV2
    obtain ⟨w3,hw3⟩:∃ w3,w3 = W1.alloc (.cells #[.func (.func 172) #[] #[.pointer (some ⟨n0 + 1,0,none⟩)]] tFnIB):=⟨_,rfl⟩
    rw [show W1.alloc (.cells #[fnV (n0 + 1)] tFnIB) = w3 from hw3.symm] at HV3b
    have HW3:=hid hw3
    clear hlast hz5 hn5 HL2 HV2 hw3
    have V5:=VX.box HV3b.out (loc_ow (loc_star (loc_blk _ _ _) HB.out)) tPVol [.pointer (some ⟨v,0,none⟩)]
    have V6:=VX.box V5 (loc_star (loc_blk _ _ _) (loc_ow (loc_star (loc_blk _ _ _) HB.out))) tPIno [.pointer (some ⟨n0,0,none⟩)]
    simp only [World.size_alloc] at V6
    have HV6:=hid V6
    clear V5 V6
    go_wp2_with fail
    rw [<- HW3.out]
    refine (vall_calls _ _ _).mono ?_
    rintro e w4 ⟨rfl,rfl⟩
    generalize hWW:(w3.alloc (.cells #[.pointer (some ⟨v,0,none⟩)] tPVol)).alloc (.cells #[.pointer (some ⟨n0,0,none⟩)] tPIno) = W0
    obtain ⟨nb,hnb⟩:∃ nb,nb = w3.heap.size:=⟨_,rfl⟩
    have HW0:Hid (Lv S0 w0 (aw v b d n0 nb (nb + 1) (n0 + 1) hk m (n0 + 1 + 1) W1.heap.size (marks U (ownV L x 0)) L x (.bool false) (GoodTo m U L x 0) B) W0):=by
     have h1:ownV L x 0 = lastL x:=by unfold ownV;simp
     rw [h1,hnb,<- hWW]
     exact hid (HV6.out.map fun _ h=>star_right h fun _ h=>star_right h fun _ h=>star_right h fun _ h=>star_right h fun _ h=>star_right h fun _ h=>star_right h fun _ h=>star_right h fun _ h=>star_right h fun _ h=>star_right h fun _ h=>⟨HGO.out,h⟩)
    rw [<- hnb]
    clear HV6 hWW hnb HV3b
    go_wp2_with fail
    rw [<- wpIn_wide (n:=3)]
    refine wpIn_range_lv (S0:=S0) (w0:=w0) (F:=Fence.wide) (n:=3) rfl (by omega) (gf:=159) (lb:=#[.pointer (some ⟨nb + 1,0,none⟩),.pointer (some ⟨nb,0,none⟩)]) rfl trivial (enters_of Tryz.func159 (by kernel_rfl) rfl)
     (fun k=>aw v b d n0 nb (nb + 1) (n0 + 1) hk m (n0 + 1 + 1) W1.heap.size (marks U (ownV L x k)) L x (.bool false) (GoodTo m U L x k) B)
     (fun c k=>Pu (c = .ret /\ ¬ OwnsQ m L U x) (aw v b d n0 nb (nb + 1) (n0 + 1) hk m (n0 + 1 + 1) W1.heap.size (marks U (ownV L x k)) L x (.bool false) True B))
     (fun _=>loc_aw HB.out) (fun _ _=>loc_pu _ (loc_aw HB.out)) n (fun k=>#[.int .i64 k,.int .i64 (vat L x k:Nat)]) (fun _=>rfl) ?act2 HW0.out ?seq ?assign ?body ?done ?stop
    case seq =>
     intro l R St W hR hY hW
     exact vall1_calls H37.out (fun _=>L) (fun _=>x) (fun k=>owB (n0 + 1) hk m (n0 + 1 + 1) (marks U (ownV L x k)) (.bool false) (Star (fbA W1.heap.size (n0 + 1)) (Pu (GoodTo m U L x k) B))) HNN.out.symm (by have:=HZ.out;omega) (fun _=>loc_ow (loc_star (loc_blk _ _ _) (loc_pu _ HB.out))) (fun _ _=>HK.out) l R St W hR hY hW
    case assign =>
     intro l k W K hK
     gi_wp2
     exact hK
    case body =>
     intro l R k W hR hk hl
     obtain ⟨hgood,hbx,hbr,hbf⟩:=aw_get hl
     have g0:=hbf.cell (j:=0) rfl
     unfold fnV at g0
     have HO:=hid (aw_own hl hR HB.out (vat L x k))
     have HG:=hid hgood
     clear hl hgood hbx hbr hbf
     gi_wp2
     refine ⟨trivial,(callsIn_wide.2 HO.out).mono ?_⟩
     rintro e w5 ⟨rfl,L5⟩
     unfold ownU at L5
     cases ho:ownB m (marks U (ownV L x k)) (vat L x k) with
     | true =>
      rw [ho,if_pos rfl,marks_marks,<- ownV_succ] at L5
      have HE:=hid (aw_pu L5 fun h=>good_succ h ho)
      clear L5 ho HO
      gi_wp2
      exact .inl HE.out
     | false =>
      rw [ho,if_neg (by decide)] at L5
      have hbad:¬ OwnsQ m L U x:=fun h=>good_bad hk ho (by rw [HNN.out];exact owns_good (HQ.out.1 h))
      have r0:=(aw_get L5).2.2.1.cell (j:=0) rfl
      have s0:=(aw_get L5).2.2.1.free 0
      have HE:=hid (aw_set (aw_pu (q:=True) L5 fun _=>trivial) hR HB.out (.bool false))
      have HBAD:=hid hbad
      clear L5 ho HO hbad
      gi_wp2
      exact .inr ⟨.ret,rfl,HE.out.map fun _ h=>star_right h fun _ h=>⟨⟨rfl,HBAD.out⟩,h⟩⟩
    case stop =>
     intro D c k W hk hl
     obtain ⟨_,hp⟩:=hl.second
     obtain ⟨⟨rfl,hbad⟩,_⟩:=hp
     have HE:=hid (hl.map fun _ h=>star_right h fun _ h=>h.2)
     have HBAD:=hid hbad
     clear hl hbad
     gi_wp2
     have hE:=HE.out.shut (loc_aw HB.out)
     refine ⟨by simp,.inl ⟨_,_,rfl,run_takeDeferred HE.out.def_at,?_⟩⟩
     have hcl:=(aw_get (R:=Emp) (hE.map fun U h=>⟨Nob,U,trivial,h,fun _ h=>h.elim,fun _ h=>h.elim,fun _ h=>h⟩)).2.2.1.cell (j:=0) rfl
     refine ⟨.bool false,?_,.inr ⟨HBAD.out,rfl,_,aw_fin hE⟩⟩
     simp [results,Tryz.f125,go_sem,hcl]
    case done =>
     intro D W hl
     have HL9:=hid hl
     have HGN:=hid (aw_get hl).1
     clear hl HW0 HGO
     have hge:∀ k,k < 5 -> (inoL x)[3 + k]? = some (.int .i64 (x.get k:Nat)):=fun k hk=>by
      obtain rfl | rfl | rfl | rfl | rfl:k = 0 \/ k = 1 \/ k = 2 \/ k = 3 \/ k = 4:=by omega
      all_goals rfl
     have HGE:=hid hge
     have r0:=(aw_get HL9.out).2.2.1.cell (j:=0) rfl
     have s0:=(aw_get HL9.out).2.2.1.free 0
     have HBX:=hid (aw_get HL9.out).2.1
     have HN5:Hid (n <= 5):=hid (by omega)
     clear hge
     go_wp2_with fail
     go_loopw [11] (fun s11 wr=>∃ k:Nat,n <= k /\ k <= 5 /\ s11 = .int .i64 k /\ Hid (∀ j,n <= j -> j < k -> x.get j = 0) /\ wr = W) (fun s11 _=>5 - (intOf s11).toNat)
     case atStart=>exact ⟨n,Nat.le_refl _,HN5.out,rfl,hid (fun j h1 h2=>by omega),rfl⟩
     case round =>
      obtain ⟨k,hnk,hk5,rfl,HJ,hwr⟩:=hrel
      rw [hwr]
      clear hwr
      by_cases hlt:k < 5
      ·have ck:=HBX.out.cell (HGE.out k hlt)
       have hlt2:(k:Int) < 5:=by omega
       have hlt6:(k:Int) < 6:=by omega
       by_cases hg:x.get k = 0
       ·have hg0:((x.get k:Int) != 0) = false:=by rw [hg];rfl
        have HJ2:Hid (∀ j,n <= j -> j < k + 1 -> x.get j = 0):=hid fun j h1 h2=>by
         by_cases e:j = k
         ·rw [e];exact hg
         ·exact HJ.out j h1 (by omega)
        clear hg
        go_wp2_with fail
        go_roundw
        case rel=>exact ⟨k + 1,by omega,hlt,by go_num,HJ2,by first | trivial | rfl⟩
        case measure=>simp [intOf];omega
       ·have hg0:((x.get k:Int) != 0) = true:=by rw [bne_iff_ne];omega
        have HBAD:Hid (¬ OwnsQ m L U x):=hid fun h=>hg ((HQ.out.1 h).zero k (by rw [<- HNN.out];exact hnk) hlt)
        clear hg
        go_wp2_with fail
        have hZ:=aw_set HL9.out (loc_def D) HB.out (.bool false)
        refine ⟨by simp,.inl ⟨_,_,rfl,run_takeDeferred hZ.def_at,?_⟩⟩
        have hE:=hZ.shut (loc_aw HB.out)
        have hcl:=(aw_get (R:=Emp) (hE.map fun U h=>⟨Nob,U,trivial,h,fun _ h=>h.elim,fun _ h=>h.elim,fun _ h=>h⟩)).2.2.1.cell (j:=0) rfl
        refine ⟨.bool false,?_,.inr ⟨HBAD.out,rfl,_,aw_fin hE⟩⟩
        simp [results,Tryz.f125,go_sem,hcl]
      ·have hge5:¬ (k:Int) < 5:=by omega
       have hOK:OwnsQ m L U x:=HQ.out.2 ⟨HK2.out,HZ.out,fun _=>HZ5.out,by rw [<- HNN.out];exact HGN.out.1,by rw [<- HNN.out];exact HGN.out.2,fun j h1 h2=>HJ.out j (by rw [HNN.out];exact h1) (by omega),fun h=>by have:=HNN.out;have:=HN5.out;omega⟩
       have HOK:=hid hOK
       clear hOK
       go_wp2_with fail
       have hZ:=aw_set HL9.out (loc_def D) HB.out (.bool true)
       refine ⟨by simp,.inl ⟨_,_,rfl,run_takeDeferred hZ.def_at,?_⟩⟩
       have hE:=hZ.shut (loc_aw HB.out)
       have hcl:=(aw_get (R:=Emp) (hE.map fun U h=>⟨Nob,U,trivial,h,fun _ h=>h.elim,fun _ h=>h.elim,fun _ h=>h⟩)).2.2.1.cell (j:=0) rfl
       refine ⟨.bool true,?_,.inl ⟨HOK.out,rfl,?_⟩⟩
       ·simp [results,Tryz.f125,go_sem,hcl]
       ·rw [if_neg HK0.out,<- HNN.out];exact aw_fin hE
   ·have hz0:((x.a5:Int) != 0) = true:=by rw [bne_iff_ne];omega
    have HBAD:Hid (¬ OwnsQ m L U x):=hid fun h=>hz5 ((HQ.out.1 h).a5z (by rw [<- HNN.out];omega))
    have hE:=hid (ow_set HV2.out (loc_had _ _ _ _) (loc_star (loc_blk _ _ _) HB.out) (.bool false))
    clear hlast hz5 hn5
    go_wp2_with fail
    have hcl:=(ow_cells hE.out).2.cell (j:=0) rfl
    unfold fnV at hcl
    refine ⟨.bool false,?_,.inr ⟨HBAD.out,rfl,U,ow_fin2 hE.out⟩⟩
    simp [results,Tryz.f125,go_sem,hcl]
end
end
end Go.Proofs.YtngalllaiphkhaaGreatDoor
