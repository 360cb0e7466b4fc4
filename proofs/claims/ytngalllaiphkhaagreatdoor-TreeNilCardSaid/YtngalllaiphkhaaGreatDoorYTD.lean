import Derived.Test.YtngalllaiphkhaaGreatDoorYTC
import Derived.Test.YtngalllaiphkhaaGreatDoorYTB
namespace Go.Proofs.YtngalllaiphkhaaGreatDoor
open Go.RowKit
open Go.Lib (hid)
set_option maxRecDepth 100000
set_option maxHeartbeats 16000000
set_option linter.unusedVariables false
set_option linter.unusedSimpArgs false
def walkT (T:Tr) (from_:Int) (path:ByteArray) (left:Nat):Nat × List ByteArray × Int :=
 if beginE T from_ path ≠ 0 then (0,[],beginE T from_ path) else
 if (alongT T (beginN from_ path) ((partsT path).take ((partsT path).length - left))).2 ≠ 0 then (0,[],(alongT T (beginN from_ path) ((partsT path).take ((partsT path).length - left))).2) else
 ((alongT T (beginN from_ path) ((partsT path).take ((partsT path).length - left))).1,(partsT path).drop ((partsT path).length - left),0)
section
variable {T:Tr}
theorem alongT_bad (T:Tr):∀ (l:List ByteArray) {n:Nat},(alongT T n l).2 ≠ 0 -> (alongT T n l).1 = 0
 | [],_,h=>absurd rfl h
 | p :: l,n,h=>by
  rw [alongT_cons] at h ⊢
  split
  ·rfl
  ·next h1 =>
   rw [if_neg h1] at h
   exact alongT_bad T l h
theorem walk_find (from_:Int) (path:ByteArray):(walkT T from_ path 0).1 = (findT T from_ path).1 /\ (walkT T from_ path 0).2.2 = (findT T from_ path).2:=by
 unfold walkT findT
 rw [Nat.sub_zero,List.take_of_length_le (Nat.le_refl _)]
 split
 ·exact ⟨rfl,rfl⟩
 ·split
  ·next h=>exact ⟨(alongT_bad T _ h).symm,rfl⟩
  ·next h=>exact ⟨rfl,(Classical.not_not.1 h).symm⟩
theorem walk_last (from_:Int) (path:ByteArray) :
 lastT T from_ path = if (walkT T from_ path 1).2.2 ≠ 0 then (0,ByteArray.empty,(walkT T from_ path 1).2.2) else if (T (walkT T from_ path 1).1).kind ≠ 2 then (0,ByteArray.empty,11) else
  match (walkT T from_ path 1).2.1 with
  | []=>(0,ByteArray.empty,8)
  | s :: _=>if namedT s = false then (0,ByteArray.empty,8) else ((walkT T from_ path 1).1,s,0):=by
 unfold walkT lastT
 by_cases h1:beginE T from_ path ≠ 0
 ·rw [if_pos h1,if_pos h1,if_pos h1]
 ·rw [if_neg h1,if_neg h1,List.dropLast_eq_take]
  by_cases h2:(alongT T (beginN from_ path) ((partsT path).take ((partsT path).length - 1))).2 ≠ 0
  ·simp only [if_pos h2]
  ·simp only [if_neg h2]
   rw [if_neg (by simp:¬ ((0:Int) ≠ 0))]
   by_cases h3:(T (alongT T (beginN from_ path) ((partsT path).take ((partsT path).length - 1))).1).kind ≠ 2
   ·rw [if_pos h3,if_pos h3]
   ·rw [if_neg h3,if_neg h3]
    cases hl:partsT path with
    | nil=>rfl
    | cons a l =>
     rw [List.getLast?_eq_getElem?,List.drop_eq_getElem_cons (by simp)]
     rw [List.getElem?_eq_getElem (by simp)]
theorem walk_ok (h:TInv T) {from_:Int} {path:ByteArray} {left:Nat} (hE:(walkT T from_ path left).2.2 = 0):(walkT T from_ path left).1 < 32 /\ (T (walkT T from_ path left).1).kind ≠ 0:=by
 unfold walkT at hE ⊢
 split at hE
 ·next h1=>exact absurd hE h1
 ·next h1 =>
  rw [if_neg h1]
  obtain ⟨a,b⟩:=beginT_ok h (Classical.not_not.1 h1)
  obtain ⟨c,e⟩:=alongT_ok h ((partsT path).take ((partsT path).length - left)) a (by omega)
  split at hE
  ·next h2=>exact absurd hE h2
  ·next h2 =>
   rw [if_neg h2]
   exact ⟨c,e (Classical.not_not.1 h2)⟩
end
section
variable {T:Tr} {m:Nat} {n off:Int} {s:ByteArray}
theorem tfind_iff:tfindE T n = 0 ↔ 0 <= n /\ n < 32 /\ (T n.toNat).kind ≠ 0:=by
 unfold tfindE
 constructor
 ·intro h
  split at h
  ·omega
  ·split at h
   ·omega
   ·exact ⟨by omega,by omega,by omega⟩
 ·rintro ⟨a,b,c⟩
  rw [if_neg (by omega),if_neg c]
theorem fput_size {U:Tr} {d:Nat} {y:Nat × ByteArray} (hf:fitsT m (putT U d y) = true) (hd:d < 32) (hk:(U d).kind = 2):16 * (1 + (putL y (U d).slots).length) <= 2368:=by
 have:=(fits_iff.1 hf).2 d hd (by unfold putT;rw [setT_same];exact hk)
 unfold putT at this
 rw [setT_same] at this
 exact this
theorem TInv.makes (h:TInv T) {from_ kind:Int} {path:ByteArray}:TInv (makeT m T from_ path kind).2:=by
 unfold makeT
 split
 ·exact h
 ·next hk =>
  by_cases h1:(lastT T from_ path).2.2 ≠ 0
  ·simp only [if_pos h1];exact h
  ·simp only [if_neg h1]
   obtain ⟨a,b,c⟩:=lastT_ok h (Classical.not_not.1 h1)
   by_cases h2:(entryT (T (lastT T from_ path).1) (lastT T from_ path).2.1).isSome = true
   ·simp only [if_pos h2];exact h
   ·simp only [if_neg h2]
    cases hf:firstT T with
    | none=>exact h
    | some k =>
     simp only
     split
     ·next h3 =>
      obtain ⟨hk1,hk2⟩:=first_some hf
      have hdk:(lastT T from_ path).1 ≠ k:=fun e=>by rw [e] at b;omega
      have e:setT T k ⟨kind.toNat,1,[],[],if kind.toNat = 2 then (lastT T from_ path).1 else 0,0⟩ (lastT T from_ path).1 = T (lastT T from_ path).1:=setT_other T _ hdk
      have hz:=fput_size (U:=setT T k ⟨kind.toNat,1,[],[],if kind.toNat = 2 then (lastT T from_ path).1 else 0,0⟩) (y:=(k,(lastT T from_ path).2.1)) h3 a (by rw [e];exact b)
      rw [e] at hz
      refine h.make a b c (by cases he:entryT (T (lastT T from_ path).1) (lastT T from_ path).2.1 with | none=>rfl | some j=>rw [he] at h2;exact absurd rfl h2) hf (by omega) hz
     ·exact h
theorem TInv.linkt (h:TInv T) {from_:Int} {old path:ByteArray}:TInv (linkT m T from_ old path).2:=by
 unfold linkT
 by_cases h0:(findT T from_ old).2 ≠ 0
 ·simp only [if_pos h0];exact h
 ·simp only [if_neg h0]
  obtain ⟨a0,b0⟩:=findT_ok h (Classical.not_not.1 h0)
  by_cases hk:(T (findT T from_ old).1).kind = 2
  ·simp only [if_pos hk];exact h
  ·simp only [if_neg hk]
   by_cases h1:(lastT T from_ path).2.2 ≠ 0
   ·simp only [if_pos h1];exact h
   ·simp only [if_neg h1]
    obtain ⟨a,b,c⟩:=lastT_ok h (Classical.not_not.1 h1)
    by_cases h2:(entryT (T (lastT T from_ path).1) (lastT T from_ path).2.1).isSome = true
    ·simp only [if_pos h2];exact h
    ·simp only [if_neg h2]
     by_cases h5:(T (findT T from_ old).1).links = 255
     ·simp only [if_pos h5];exact h
     ·simp only [if_neg h5]
      split
      ·next h3 =>
       have hdk:(lastT T from_ path).1 ≠ (findT T from_ old).1:=fun e=>by rw [e] at b;exact hk b
       have e:setT T (findT T from_ old).1 { T (findT T from_ old).1 with links:=(T (findT T from_ old).1).links + 1 } (lastT T from_ path).1 = T (lastT T from_ path).1:=setT_other T _ hdk
       have hz:=fput_size (U:=setT T (findT T from_ old).1 { T (findT T from_ old).1 with links:=(T (findT T from_ old).1).links + 1 }) (y:=((findT T from_ old).1,(lastT T from_ path).2.1)) h3 a (by rw [e];exact b)
       rw [e] at hz
       have:=h.kind _ a0
       refine h.link a b c (by cases he:entryT (T (lastT T from_ path).1) (lastT T from_ path).2.1 with | none=>rfl | some j=>rw [he] at h2;exact absurd rfl h2) a0 (by omega) h5 hz
      ·exact h
end
section
open Go.RowKit Go.Shelf
theorem dot1_iff (s:ByteArray):s = dot1 ↔ s.toList = [46]:=by
 have:=bytes_beq s dot1
 rw [show dot1.toList = [46] from by kernel_rfl] at this
 constructor
 ·intro h;rw [h];kernel_rfl
 ·intro h;rw [h] at this;exact of_decide_eq_true (this.symm.trans (by rfl))
theorem dot2_iff (s:ByteArray):s = dot2 ↔ s.toList = [46,46]:=by
 have:=bytes_beq s dot2
 rw [show dot2.toList = [46,46] from by kernel_rfl] at this
 constructor
 ·intro h;rw [h];kernel_rfl
 ·intro h;rw [h] at this;exact of_decide_eq_true (this.symm.trans (by rfl))
theorem tnamed_calls (s:ByteArray) (w:World):Calls Tryz.prog 88 #[.string s] w fun e w'=>e = .returned (.bool (namedT s)) /\ Fr Nob w w':=by
 have hres:namedT s = (decide (1 <= s.size) && decide (s.size <= 14) && cleanT s && decide (s ≠ dot1) && decide (s ≠ dot2)):=rfl
 by_cases h1:1 <= s.size
 ·by_cases h14:s.size <= 14
  ·have c1:(1:Int) <= (s.size:Int):=by omega
   have c14:(s.size:Int) <= 14:=by omega
   have HC:=hid (tcany_calls h14 w)
   rw [decide_eq_true h1,decide_eq_true h14] at hres
   obtain ⟨cl,hcl⟩:∃ cl,cl = cleanT s:=⟨_,rfl⟩
   rw [<- hcl] at hres HC
   have e1:=dot1_iff s
   have e2:=dot2_iff s
   have HE1:=hid e1
   have HE2:=hid e2
   have HRES:=hid hres
   clear hres hcl h1 h14 e1 e2
   go_enter Tryz.func88,Tryz.ntmps88
   go_wp2_with fail
   refine HC.out.mono ?_
   rintro e w1 ⟨rfl,hf⟩
   have HF:=hid hf
   clear hf HC
   cases cl with
   | false =>
    go_wp2_with fail
    go_ret
    exact ⟨by rw [HRES.out];rfl,HF.out⟩
   | true =>
    by_cases g1:s.toList = [46]
    ·have hr:namedT s = false:=by rw [HRES.out,decide_eq_false (not_not_intro (HE1.out.2 g1))];rfl
     have HR:=hid hr
     clear hr
     go_wp2_with fail
     go_ret
     exact ⟨by rw [HR.out];rfl,HF.out⟩
    ·by_cases g2:s.toList = [46,46]
     ·have hr:namedT s = false:=by rw [HRES.out,decide_eq_false (not_not_intro (HE2.out.2 g2)),Bool.and_false]
      have HR:=hid hr
      clear hr
      go_wp2_with fail
      go_ret
      exact ⟨by rw [HR.out];rfl,HF.out⟩
     ·have hr:namedT s = true:=by
       rw [HRES.out]
       simp only [Bool.and_eq_true,decide_eq_true_eq,Bool.true_and]
       exact ⟨fun h=>g1 (HE1.out.1 h),fun h=>g2 (HE2.out.1 h)⟩
      have HR:=hid hr
      have G1:=hid g1
      have G2:=hid g2
      clear hr
      go_wp2_with fail
      go_ret
      refine ⟨?_,HF.out⟩
      rw [HR.out]
      show Ending.returned (.bool (!(s.toList == [46]) && !(s.toList == [46,46]))) = _
      rw [beq_eq_false_iff_ne.2 G1.out,beq_eq_false_iff_ne.2 G2.out]
      rfl
  ·have c1:(1:Int) <= (s.size:Int):=by omega
   have c14:¬ (s.size:Int) <= 14:=by omega
   have hres2:namedT s = false:=by rw [hres,decide_eq_false h14];simp
   rw [hres2]
   clear hres hres2 h1 h14
   go_enter Tryz.func88,Tryz.ntmps88
   go_wp2_with fail
   go_ret
   exact ⟨rfl,Fr.refl _ _⟩
 ·have c1:¬ (1:Int) <= (s.size:Int):=by omega
  have hres2:namedT s = false:=by rw [hres,decide_eq_false h1];simp
  rw [hres2]
  clear hres hres2 h1
  go_enter Tryz.func88,Tryz.ntmps88
  go_wp2_with fail
  go_ret
  exact ⟨rfl,Fr.refl _ _⟩
end
abbrev TV (p:Int) (S0:Nat -> Prop) (w0:World) (t v b d m:Nat) (T:Tr) (B:Asr) (w:World):Prop:=VT 0 p S0 w0 v b d m (volT T) (volT T) (Star (trA t b v T) B) w
def Done (p:Int) (S0:Nat -> Prop) (w0:World) (t v b d m:Nat) (T:Tr) (r:Int × Tr) (B:Asr) (e:Ending) (w':World):Prop :=
 (e = .returned (.int .i64 r.1) /\ ∃ p',(p = -1 -> p' = -1) /\ TV p' S0 w0 t v b d m r.2 B w') \/
 (p ≠ -1 /\ e = .returned (.int .i64 7) /\ r.1 = 0 /\ DT S0 w0 d m (volT r.2) (volT T) B w')
theorem heldL_congr {T U:Tr} (h:∀ n,n < 32 -> (U n).held = (T n).held):heldL U 32 = heldL T 32:=by
 unfold heldL
 refine List.map_congr_left fun n hn=>?_
 rw [h n (List.mem_range.1 hn)]
theorem treeL_congr {T U:Tr} (h:∀ n,n < 32 -> (U n).held = (T n).held) (b v:Nat) (dead:Bool):treeL b v U dead = treeL b v T dead:=by
 unfold treeL
 rw [heldL_congr h]
section
variable {S0:Nat -> Prop} {w0 w:World} {t v b d m c:Nat} {p:Int} {A A0:Nat -> Node} {T:Tr} {B R:Asr}
theorem DT.less {e:Ending} {w':World} (h:DT S0 w0 d m A A0 (Star R B) w'):DT S0 w0 d m A A0 B w':=by
 obtain ⟨D,H,l,hL,h2⟩:=h
 exact ⟨D,H,l,hL.map fun _ h=>star_less h,h2⟩
theorem Ends.done {T' U:Tr} {e:Ending} {w':World} (h:Ends p S0 w0 t v b d m (volT T') (volT T) U B e w') (hh:∀ n,n < 32 -> (T' n).held = (U n).held):Done p S0 w0 t v b d m T (0,T') B e w':=by
 rcases h with ⟨h1,p',h2,h3⟩ | ⟨h1,h2,h3⟩
 ·refine .inl ⟨h1,p',h2,?_⟩
  show VT 0 p' S0 w0 v b d m (volT T') (volT T') (Star (blkA t tTree (treeL b v T' false)) B) w'
  rw [treeL_congr hh]
  exact h3
 ·exact .inr ⟨h1,h2,rfl,DT.less (e:=e) h3⟩
theorem Done.less {r:Int × Tr} {e:Ending} {w':World} (h:Done p S0 w0 t v b d m T r (Star R B) e w'):Done p S0 w0 t v b d m T r B e w':=by
 rcases h with ⟨h1,p',h2,h3⟩ | ⟨h1,h2,h3,h4⟩
 ·exact .inl ⟨h1,p',h2,h3.map fun _ _ h=>star_less h⟩
 ·exact .inr ⟨h1,h2,h3,DT.less (e:=e) h4⟩
theorem Done.val {r:Int × Tr} {e:Ending} {w':World} (h:Done p S0 w0 t v b d m T r B e w'):∃ x,e = .returned (.int .i64 x):=by
 rcases h with ⟨h1,_⟩ | ⟨_,h2,_⟩
 ·exact ⟨_,h1⟩
 ·exact ⟨_,h2⟩
def astatV (A:Nat -> Node) (n:Int):Value:=if afindE A n = 0 then nstatV (A n.toNat) else nstatV Node.free
theorem astat_is (A:Nat -> Node) (n:Int):∃ x0 x1 x2:Int,astatV A n = .agg #[.int .i64 x0,.int .i64 x1,.int .i64 x2] /\ (afindE A n = 0 -> x0 = (A n.toNat).kind /\ x1 = (A n.toNat).links /\ x2 = (A n.toNat).data.length):=by
 unfold astatV
 split
 ·exact ⟨_,_,_,rfl,fun _=>⟨rfl,rfl,rfl⟩⟩
 ·next h=>exact ⟨_,_,_,rfl,fun e=>absurd e h⟩
theorem Tryz.sizeStat9:(Tryz.prog.info? tStat9).map (·.size) = some 3:=by kernel_rfl
theorem tstat_calls (h:VT c p S0 w0 v b d m A A0 (Star (trA t b v T) B) w) (hB:Loc B) (n:Int) :
 Calls Tryz.prog 14 #[.pointer (some ⟨t,0,none⟩),.int .i64 n] w fun e w'=>e = .returned (.tuple #[astatV A n,.int .i64 (afindE A n)]) /\ VT c p S0 w0 v b d m A A0 (Star (trA t b v T) B) w':=by
 obtain ⟨x0,x1,x2,hx,_⟩:=astat_is A n
 have hlB:Loc (Star (blkA w.heap.size tStat9 [.int .i64 0,.int .i64 0,.int .i64 0]) B):=loc_star (loc_blk _ _ _) hB
 have V0:=(h.box (loc_star (loc_blk _ _ _) hB) tStat9 [.int .i64 0,.int .i64 0,.int .i64 0]).flip
 have HA:=hid (talive_calls V0 hlB)
 have HB:=hid hB
 have HLB:=hid hlB
 have HX:=hid hx
 clear h hB hlB V0 hx
 go_enter Tryz.func14,Tryz.ntmps14
 go_wp2_with fail
 refine HA.out.mono ?_
 rintro e w1 ⟨rfl,V1⟩
 have k1:=V1.blk.cell (j:=1) rfl
 have HS:Hid (Calls Tryz.prog 44 #[.pointer (some ⟨v,0,none⟩),.int .i64 n] w1 fun e w'=>e = .returned (.tuple #[.agg #[.int .i64 x0,.int .i64 x1,.int .i64 x2],.int .i64 (afindE A n)]) /\ VT c p S0 w0 v b d m A A0 (Star (trA t b v T) (Star (blkA w.heap.size tStat9 [.int .i64 0,.int .i64 0,.int .i64 0]) B)) w'):=hid (by
  have h:=t_stat V1 (loc_star (loc_blk _ _ _) HLB.out) n
  rw [<- HX.out]
  exact h)
 clear V1 HA
 go_wp2_with fail
 refine HS.out.mono ?_
 rintro e w2 ⟨rfl,V2⟩
 have V3:=V2.flip
 have HB3:=hid V3.blk
 have HV3:=hid V3
 have z0:=V3.blk.cell (j:=0) rfl
 have z1:=V3.blk.cell (j:=1) rfl
 have z2:=V3.blk.cell (j:=2) rfl
 have f0:=V3.blk.free 0
 have f1:=V3.blk.free 1
 have f2:=V3.blk.free 2
 clear V2 V3 k1
 go_wp2_with fail
 refine bodyPost_ret (results_blk_tmp rfl rfl (((HB3.out.set 0 _).set 1 _).set 2 _) Tryz.underlying30 rfl Tryz.sizeStat9) rfl ?_
 have l1:Loc (Star (trA t b v T) B):=loc_star (loc_blk _ _ _) HB.out
 exact ⟨by rw [HX.out];rfl,(((HV3.out.turn l1 (turn_blk 0 _)).turn l1 (turn_blk 1 _)).turn l1 (turn_blk 2 _)).less⟩
end
section
open Go.RowKit Go.Shelf
section
variable {S0:Nat -> Prop} {w0 w w':World} {t v b d m c bt bn:Nat} {p:Int} {A A0:Nat -> Node} {T:Tr} {B R C C':Asr} {n:Int}
theorem EB.cells (h:VT c p S0 w0 v b d m A A0 (EB t b v bt bn T n B) w):Blk w bt tPTree [.pointer (some ⟨t,0,none⟩)] /\ Blk w bn tInt [.int .i64 n]:=by
 obtain ⟨_,_,_,⟨_,⟨_,_,_,⟨_,_,_,⟨_,_,_,⟨_,_,_,⟨_,_,h2,⟨_,_,h3,_⟩,_⟩,_⟩,_⟩,_⟩,_⟩,_⟩,_⟩:=h
 exact ⟨h2.1,h3.1⟩
theorem EB.put (h:VT c p S0 w0 v b d m A A0 (EB t b v bt bn T n B) w) (hB:Loc B) (x:Int):VT c p S0 w0 v b d m A A0 (EB t b v bt bn T x B) (w.setCell ⟨bn,0,none⟩ (.int .i64 x)):=by
 have h1:VT c p S0 w0 v b d m A A0 (Star (blkA bn tInt [.int .i64 n]) (Star (trA t b v T) (Star (blkA bt tPTree [.pointer (some ⟨t,0,none⟩)]) B))) w:=h.map fun _ _ h=>star_flip (star_right h fun _ h=>star_flip h)
 have h2:=h1.turn (loc_star (loc_blk _ _ _) (loc_star (loc_blk _ _ _) hB)) (turn_blk 0 (.int .i64 x))
 exact h2.map fun _ _ h=>star_right (star_flip h) fun _ h=>star_flip h
theorem fnd_tree {k:Nat} (h:DirOk T k) {s:ByteArray} (hs:areadB (volT T) k 0 2368 = s) (name:ByteArray):fndB s name (s.size / 16) = (entryT (T k) name).map (· + 1):=by
 have h1:=dir_read h
 have h2:=dir_size h
 rw [hs] at h1 h2
 rw [h2,Nat.mul_div_cancel_left _ (by omega)]
 exact fnd_dir h1 h.slots
theorem up_tree {k:Nat} (h:DirOk T k) (hu:(T k).up < 32) {s:ByteArray} (hs:areadB (volT T) k 0 2368 = s):upB s = (T k).up:=by
 have h1:=dir_read h
 have h2:=dir_size h
 rw [hs] at h1 h2
 unfold upB
 rw [if_pos (by omega),(ent_first h1 hu).1]
theorem fnd_ino {k j:Nat} (h:DirOk T k) {s:ByteArray} (hs:areadB (volT T) k 0 2368 = s) {name:ByteArray} (he:entryT (T k) name = some j):entI s (j + 1) = inoT (T k) j /\ entS s (j + 1) = name:=by
 have h1:=dir_read h
 rw [hs] at h1
 exact ent_some h1 h.slots (entry_some he).2
theorem fnd_vals {k:Nat} (h:DirOk T k) {s:ByteArray} (hs:areadB (volT T) k 0 2368 = s) (name:ByteArray) :
 (entryT (T k) name = none -> fndI s name = -1 /\ fndX s name = 0 /\ fndY s name = ⟨#[]⟩) /\ (∀ j,entryT (T k) name = some j -> fndI s name = (16 * (j + 1):Nat) /\ fndX s name = inoT (T k) j /\ fndY s name = name):=by
 have hf:=fnd_tree h hs name
 constructor
 ·intro he
  rw [he] at hf
  unfold fndI fndX fndY
  rw [show fndB s name (s.size / 16) = none from hf]
  exact ⟨rfl,rfl,rfl⟩
 ·intro j he
  obtain ⟨a,b⟩:=fnd_ino h hs he
  rw [he] at hf
  unfold fndI fndX fndY
  rw [show fndB s name (s.size / 16) = some (j + 1) from hf]
  exact ⟨rfl,a,b⟩
theorem tstep_calls {k:Nat} (h:VT c p S0 w0 v b d m (volT T) A0 (EB t b v bt bn T k B) w) (hB:Loc B) (hI:TInv T) (hk:k < 32) (part:ByteArray) :
 Calls Tryz.prog 86 #[.string part,.pointer (some ⟨bt,0,none⟩),.pointer (some ⟨bn,0,none⟩)] w fun e w'=>e = .returned (.int .i64 (stepE T k part)) /\ VT c p S0 w0 v b d m (volT T) A0 (EB t b v bt bn T (stepN T k part:Nat) B) w':=by
 have hlB:Loc (Star (blkA bt tPTree [.pointer (some ⟨t,0,none⟩)]) (Star (blkA bn tInt [.int .i64 (k:Int)]) B)):=loc_star (loc_blk _ _ _) (loc_star (loc_blk _ _ _) hB)
 have HD:=tisdir_calls h hlB k
 rw [adir_vol] at HD
 obtain ⟨c2,c3⟩:=EB.cells h
 have k2:=c2.cell (j:=0) rfl
 have k3:=c3.cell (j:=0) rfl
 have HLB:=hid hlB
 have HB:=hid hB
 have HI:=hid hI
 have HK:=hid hk
 obtain ⟨isd,hisd⟩:∃ isd,isd = isDirT T k:=⟨_,rfl⟩
 rw [<- hisd] at HD
 have HD:=hid HD
 have HISD:Hid (isd = true ↔ (T k).kind = 2):=hid (by
  rw [hisd,isDir_iff]
  constructor
  ·rintro ⟨_,_,h⟩;exact h
  ·intro h;exact ⟨by omega,by omega,h⟩)
 clear h hlB hB hI hk hisd c2 c3
 go_enter Tryz.func86,Tryz.ntmps86
 go_wp2_with fail
 refine HD.out.mono ?_
 rintro e w1 ⟨rfl,V1⟩
 have HV:=hid V1
 clear V1 HD
 cases isd with
 | false =>
  have hkd:(T k).kind ≠ 2:=fun h=>Bool.noConfusion (HISD.out.2 h)
  have hE:stepE T k part = 11:=by unfold stepE;rw [if_pos hkd]
  have hN:stepN T k part = k:=by unfold stepN;rw [if_pos hkd]
  have HEE:=hid hE
  have HNN:=hid hN
  clear hE hN hkd
  go_wp2_with fail
  go_ret
  exact ⟨by rw [HEE.out];rfl,by rw [HNN.out];exact HV.out⟩
 | true =>
  have hkd:(T k).kind = 2:=HISD.out.1 rfl
  have hdk:=HI.out.toTShape.dirOk HK.out hkd
  have hup:=(HI.out.up k HK.out hkd).1
  obtain ⟨s,hs⟩:∃ s,areadB (volT T) k 0 2368 = s:=⟨_,rfl⟩
  have HDK:=hid hdk
  have HKD:=hid hkd
  have HUP:=hid hup
  have HS:=hid hs
  have HG1:=hid (dot1_iff part)
  have HG2:=hid (dot2_iff part)
  clear hkd hdk hup hs
  by_cases g1:part.toList = [46]
  ·have hp:part = dot1:=HG1.out.2 g1
   have hE:stepE T k part = 0:=by unfold stepE;rw [if_neg (not_not_intro HKD.out),if_pos hp]
   have hN:stepN T k part = k:=by unfold stepN;rw [if_neg (not_not_intro HKD.out),if_pos hp]
   have HEE:=hid hE
   have HNN:=hid hN
   clear hE hN hp
   go_wp2_with fail
   go_ret
   exact ⟨by rw [HEE.out];rfl,by rw [HNN.out];exact HV.out⟩
  ·have hp1:part ≠ dot1:=fun h=>g1 (HG1.out.1 h)
   have b1:(part.toList == [46]) = false:=beq_eq_false_iff_ne.2 g1
   by_cases g2:part.toList = [46,46]
   ·have hp:part = dot2:=HG2.out.2 g2
    have hE:stepE T k part = 0:=by unfold stepE;rw [if_neg (not_not_intro HKD.out),if_neg hp1,if_pos hp]
    have hN:stepN T k part = (T k).up:=by unfold stepN;rw [if_neg (not_not_intro HKD.out),if_neg hp1,if_pos hp]
    have HEE:=hid hE
    have HNN:=hid hN
    have HP:=hid (tparent_calls HV.out HLB.out HS.out)
    obtain ⟨c2,c3⟩:=EB.cells HV.out
    have q2:=c2.cell (j:=0) rfl
    have q3:=c3.cell (j:=0) rfl
    clear hE hN hp hp1 k2 k3 c2 c3
    go_wp2_with fail
    refine HP.out.mono ?_
    rintro e w2 ⟨rfl,V2⟩
    obtain ⟨c2,c3⟩:=EB.cells V2
    have r3:=c3.cell (j:=0) rfl
    have f3:=c3.free 0
    have HV2:=hid V2
    clear V2 HP q2 q3 c2 c3
    go_wp2_with fail
    go_ret
    refine ⟨by rw [HEE.out];rfl,?_⟩
    rw [HNN.out]
    have h9:=EB.put HV2.out HB.out (upB s)
    rw [up_tree HDK.out HUP.out HS.out] at h9 ⊢
    exact h9
   ·have hp2:part ≠ dot2:=fun h=>g2 (HG2.out.1 h)
    have b2:(part.toList == [46,46]) = false:=beq_eq_false_iff_ne.2 g2
    obtain ⟨nm,hnm⟩:∃ nm,nm = namedT part:=⟨_,rfl⟩
    have HN0:=tnamed_calls part
    rw [<- hnm] at HN0
    have HN0:=hid HN0
    have HP1:=hid hp1
    have HP2:=hid hp2
    have HNM:=hid hnm
    clear hp1 hp2 hnm
    go_wp2_with fail
    refine (HN0.out _).mono ?_
    rintro e w2 ⟨rfl,hf2⟩
    have V2:=HV.out.keep (loc_star (loc_blk _ _ _) HLB.out) hf2
    have HV2:=hid V2
    cases nm with
    | false =>
     have hE:stepE T k part = 8:=by unfold stepE;rw [if_neg (not_not_intro HKD.out),if_neg HP1.out,if_neg HP2.out,if_pos HNM.out.symm]
     have hN:stepN T k part = k:=by unfold stepN;rw [if_neg (not_not_intro HKD.out),if_neg HP1.out,if_neg HP2.out,if_pos HNM.out.symm]
     have HEE:=hid hE
     have HNN:=hid hN
     clear hE hN V2 hf2
     go_wp2_with fail
     go_ret
     exact ⟨by rw [HEE.out];rfl,by rw [HNN.out];exact HV2.out⟩
    | true =>
     obtain ⟨c2,c3⟩:=EB.cells V2
     have q2:=c2.cell (j:=0) rfl
     have q3:=c3.cell (j:=0) rfl
     have hnn:¬ namedT part = false:=by rw [<- HNM.out];decide
     obtain ⟨va,vb⟩:=fnd_vals HDK.out HS.out part
     have HF:=tfind_calls V2 HLB.out HS.out part
     cases he:entryT (T k) part with
     | none =>
      obtain ⟨a1,a2,a3⟩:=va he
      rw [a1,a2,a3] at HF
      have HF:=hid HF
      have hE:stepE T k part = 5:=by unfold stepE;rw [if_neg (not_not_intro HKD.out),if_neg HP1.out,if_neg HP2.out,if_neg hnn,he];rfl
      have hN:stepN T k part = k:=by unfold stepN;rw [if_neg (not_not_intro HKD.out),if_neg HP1.out,if_neg HP2.out,if_neg hnn,he]
      have HEE:=hid hE
      have HNN:=hid hN
      clear hE hN V2 hf2 va vb a1 a2 a3 hnn he c2 c3 k2 k3
      go_wp2_with fail
      refine HF.out.mono ?_
      rintro e w3 ⟨rfl,V3⟩
      have HV3:=hid V3
      clear V3
      go_wp2_with fail
      go_ret
      exact ⟨by rw [HEE.out];rfl,by rw [HNN.out];exact HV3.out.keep (loc_star (loc_blk _ _ _) HLB.out) ((Fr.refl _ _).alloc _)⟩
     | some j =>
      obtain ⟨a1,a2,a3⟩:=vb j he
      rw [a1,a2,a3] at HF
      have HF:=hid HF
      have hE:stepE T k part = 0:=by unfold stepE;rw [if_neg (not_not_intro HKD.out),if_neg HP1.out,if_neg HP2.out,if_neg hnn,he];rfl
      have hN:stepN T k part = inoT (T k) j:=by unfold stepN;rw [if_neg (not_not_intro HKD.out),if_neg HP1.out,if_neg HP2.out,if_neg hnn,he]
      have HEE:=hid hE
      have HNN:=hid hN
      obtain ⟨at_,hat⟩:∃ at_:Nat,at_ = 16 * (j + 1):=⟨_,rfl⟩
      obtain ⟨ino,hino⟩:∃ ino:Nat,ino = inoT (T k) j:=⟨_,rfl⟩
      rw [<- hat,<- hino] at HF
      have HINO:=hid hino
      clear hE hN V2 hf2 va vb a1 a2 a3 hnn he c2 c3 k2 k3 hat hino
      have hna:¬ (at_:Int) < 0:=by omega
      go_wp2_with fail
      refine HF.out.mono ?_
      rintro e w3 ⟨rfl,V3⟩
      have V4:=V3.keep (loc_star (loc_blk _ _ _) HLB.out) ((Fr.refl _ _).alloc (.cells #[.int .i64 ino,.string part] tEnt))
      obtain ⟨_,c3⟩:=EB.cells V3
      have r3:(w3.alloc (.cells #[.int .i64 ino,.string part] tEnt)).cell? ⟨bn,0,none⟩ = some (.int .i64 k):=(EB.cells V4).2.cell (j:=0) rfl
      have f3:(w3.alloc (.cells #[.int .i64 ino,.string part] tEnt)).frozen? ⟨bn,0,none⟩ = false:=(EB.cells V4).2.free 0
      have HV4:=hid V4
      clear V3 V4 c3
      go_wp2_with fail
      go_ret
      exact ⟨by rw [HEE.out];rfl,by rw [HNN.out,<- HINO.out];exact EB.put HV4.out HB.out (ino:Nat)⟩
end
end
section
open Go.RowKit Go.Shelf
abbrev tStrT:Nat:=9
def strsT (l:List ByteArray):List Value:=l.map Value.string
theorem tpred_at (w:World):PredAt Tryz.prog 85 #[] encR (fun c=>c == 47) w:=by
 intro W x _
 show Calls Tryz.prog 85 #[.int .i32 x] W fun e w'=>e = .returned (.bool (x == 47)) /\ ∃ q,w' = W.drewN q
 have hb:((x:Int) == 47) = (x == 47):=by
  by_cases h:x = 47
  ·subst h;rfl
  ·rw [beq_eq_false_iff_ne.2 h,beq_eq_false_iff_ne];omega
 obtain ⟨bb,hbb⟩:∃ bb,bb = (x == 47):=⟨_,rfl⟩
 rw [<- hbb] at hb ⊢
 clear hbb
 go_enter Tryz.func85,Tryz.ntmps85
 go_wp2_with fail
 go_ret
 exact ⟨rfl,0,rfl⟩
theorem nul_iff (l:List UInt8):0 <= Lib.indexByte l 0 ↔ l.contains 0 = true:=by
 induction l with
 | nil=>simp [Lib.indexByte]
 | cons b l ih =>
  rw [Lib.indexByte]
  by_cases hb:b = 0
  ·subst hb;simp
  ·rw [if_neg (by simpa using hb),List.contains_cons,show (0 == b) = false from beq_eq_false_iff_ne.2 (Ne.symm hb),Bool.false_or,<- ih]
   by_cases h2:Lib.indexByte l 0 = -1
   ·rw [h2];decide
   ·rw [if_neg (by simpa using h2)]
    have:-1 <= Lib.indexByte l 0:=by
     clear ih h2 hb
     induction l with
     | nil=>simp [Lib.indexByte]
     | cons a l ih2 =>
      rw [Lib.indexByte]
      split
      ·omega
      ·split <;> omega
    omega
section
variable {S0:Nat -> Prop} {w0 w w':World} {t v b d m c bt bn:Nat} {p:Int} {A A0:Nat -> Node} {T:Tr} {B R C C':Asr} {n:Int}
abbrev prtA (a:Nat) (l:List ByteArray):Asr:=rowA tStrT 1 (.slice (some ⟨a,0,none⟩) l.length l.length) l.length (strsT l)
theorem VT.parts {l:List ByteArray} {a:Nat} (h:VT c p S0 w0 v b d m A A0 (EB t b v bt bn T n B) w) (hB:Loc B) (hA:w.heap.size <= a) (hown:w'.ownsRow w.heap.size tStrT 1 (.slice (some ⟨a,0,none⟩) l.length l.length) l.length (strsT l)) (hf:Below w.heap.size w w') :
 VT c p S0 w0 v b d m A A0 (EB t b v bt bn T n (Star (prtA a l) B)) w':=by
 have h1:VT c p S0 w0 v b d m A A0 (Star (prtA a l) (EB t b v bt bn T n B)) w':=h.new (loc_EB hB) (Fr.of_below hf (fun _ h _=>h)) ⟨ownsRow_base hown,fun k hk=>by
  obtain rfl:a = k:=by cases hk;rfl
  exact .inr ⟨hA,(hown.lt a rfl).2⟩⟩
 exact h1.map fun _ _ h=>star_right (star_flip h) fun _ h=>star_right (star_flip h) fun _ h=>star_flip h
theorem EB.parts {l:List ByteArray} {a:Nat} (h:VT c p S0 w0 v b d m A A0 (EB t b v bt bn T n (Star (prtA a l) B)) w) {j:Nat} {s:ByteArray} (hj:l[j]? = some s):w.cell? ⟨a,j,none⟩ = some (.string s):=by
 obtain ⟨_,_,_,⟨_,⟨_,_,_,⟨_,_,_,⟨_,_,_,⟨_,_,_,⟨_,_,_,⟨_,_,_,⟨_,_,h3,_⟩,_⟩,_⟩,_⟩,_⟩,_⟩,_⟩,_⟩,_⟩:=h
 have h5:=h3.1.cells (g:=a) rfl j (.string s) (by rw [strsT,List.getElem?_map,hj];rfl)
 rw [Addr.add_lit,Nat.zero_add] at h5
 exact h5
theorem EB.start (h:VT c p S0 w0 v b d m A A0 (Star (trA t b v T) B) w) (hB:Loc B) (n:Int) :
 VT c p S0 w0 v b d m A A0 (EB t b v w.heap.size (w.heap.size + 1) T n B) ((w.alloc (.cells #[.pointer (some ⟨t,0,none⟩)] tPTree)).alloc (.cells #[.int .i64 n] tInt)):=by
 have l0:Loc (Star (trA t b v T) B):=loc_star (loc_blk _ _ _) hB
 have b1:=h.box l0 tPTree [.pointer (some ⟨t,0,none⟩)]
 have b2:=b1.box (loc_star (loc_blk _ _ _) l0) tInt [.int .i64 n]
 simp only [World.size_alloc] at b2
 exact b2.map fun _ _ h=>star_right (star_flip (star_right h fun _ h=>star_flip h)) fun _ h=>star_flip h
theorem EB.fin (h:VT c p S0 w0 v b d m A A0 (EB t b v bt bn T n B) w):VT c p S0 w0 v b d m A A0 (Star (trA t b v T) B) w:=h.map fun _ _ h=>star_less (star_less h)
def Walked (c:Nat) (p:Int) (S0:Nat -> Prop) (w0:World) (t v b d m:Nat) (A0:Nat -> Node) (T:Tr) (path:ByteArray) (left:Nat) (r:Nat × List ByteArray × Int) (B:Asr) (e:Ending) (w':World):Prop :=
 (r.2.2 ≠ 0 /\ e = .returned (.tuple #[.int .i64 0,.slice none 0 0,.int .i64 r.2.2]) /\ VT c p S0 w0 v b d m (volT T) A0 (Star (trA t b v T) B) w') \/
 (r.2.2 = 0 /\ ∃ a o,(min left (partsT path).length ≠ 0 -> o = (partsT path).length - min left (partsT path).length) /\ e = .returned (.tuple #[.int .i64 (r.1:Nat),.slice (some ⟨a,o,none⟩) (min left (partsT path).length) (min left (partsT path).length),.int .i64 0]) /\
  VT c p S0 w0 v b d m (volT T) A0 (Star (trA t b v T) (Star (prtA a (partsT path)) B)) w')
theorem twalk_calls (h:VT c p S0 w0 v b d m (volT T) A0 (Star (trA t b v T) B) w) (hB:Loc B) (hI:TInv T) (from_:Int) (path:ByteArray) (left:Nat) (hleft:left <= 1) :
 Calls Tryz.prog 43 #[.pointer (some ⟨t,0,none⟩),.int .i64 from_,.string path,.int .i64 left] w (Walked c p S0 w0 t v b d m A0 T path left (walkT T from_ path left) B):=by
 by_cases hs1:path.size < 1
 ·have hE:beginE T from_ path = 8:=by unfold beginE;rw [if_pos (.inl hs1)]
  have hw:walkT T from_ path left = (0,[],8):=by unfold walkT;rw [hE,if_pos (by decide)]
  rw [hw]
  have e1:(path.size:Int) < 1:=by omega
  have HV:=hid (h.keep (loc_star (loc_blk _ _ _) hB) ((Fr.refl _ _).alloc (.cells #[.pointer (some ⟨t,0,none⟩)] tPTree)))
  clear hE hw h hB hI hs1
  go_enter Tryz.func43,Tryz.ntmps43
  go_wp2_with fail
  go_ret3
  exact .inl ⟨by decide,rfl,HV.out⟩
 have e1:¬ (path.size:Int) < 1:=by omega
 by_cases hs2:128 < path.size
 ·have hE:beginE T from_ path = 8:=by unfold beginE;rw [if_pos (.inr (.inl hs2))]
  have hw:walkT T from_ path left = (0,[],8):=by unfold walkT;rw [hE,if_pos (by decide)]
  rw [hw]
  have e2:(128:Int) < (path.size:Int):=by omega
  have HV:=hid (h.keep (loc_star (loc_blk _ _ _) hB) ((Fr.refl _ _).alloc (.cells #[.pointer (some ⟨t,0,none⟩)] tPTree)))
  clear hE hw h hB hI hs1 hs2
  go_enter Tryz.func43,Tryz.ntmps43
  go_wp2_with fail
  go_ret3
  exact .inl ⟨by decide,rfl,HV.out⟩
 have e2:¬ (128:Int) < (path.size:Int):=by omega
 have HCO:=hid (fun W=>Tryz.strings_Contains_one path 0 W)
 by_cases hs3:path.data.toList.contains 0 = true
 ·have hE:beginE T from_ path = 8:=by unfold beginE;rw [if_pos (.inr (.inr hs3))]
  have hw:walkT T from_ path left = (0,[],8):=by unfold walkT;rw [hE,if_pos (by decide)]
  rw [hw]
  have HD:Hid (decide (0 <= Lib.indexByte path.data.toList 0) = true):=hid (decide_eq_true ((nul_iff _).2 hs3))
  have HV:=hid (h.keep (loc_star (loc_blk _ _ _) hB) ((Fr.refl _ _).alloc (.cells #[.pointer (some ⟨t,0,none⟩)] tPTree)))
  clear hE hw h hB hI hs1 hs2 hs3
  go_enter Tryz.func43,Tryz.ntmps43
  go_wp2_with fail
  refine (HCO.out _).mono ?_
  rintro e w1 ⟨rfl,rfl⟩
  rw [HD.out]
  go_wp2_with fail
  go_ret3
  exact .inl ⟨by decide,rfl,HV.out⟩
 have HD:Hid (decide (0 <= Lib.indexByte path.data.toList 0) = false):=hid (decide_eq_false fun h=>hs3 ((nul_iff _).1 h))
 have hbg:¬ (path.size < 1 \/ 128 < path.size \/ path.data.toList.contains 0 = true):=fun h=>h.elim hs1 fun h=>h.elim hs2 hs3
 have hlt:0 < path.size:=by omega
 have hix:∀ W:World,(Instr.index 9 (.string path) (.int .i64 0)).run Tryz.prog W = .ok (.int .u8 (byteAt path 0:Int)) W:=fun W=>by
  rw [byteAt_get hlt];exact run_index_at (by rfl) hlt
 obtain ⟨by0,hby0⟩:∃ by0,by0 = byteAt path 0:=⟨_,rfl⟩
 rw [<- hby0] at hix
 have hb47:path.data.toList.getD 0 0 = 47 ↔ by0 = 47:=by
  rw [hby0]
  unfold byteAt
  constructor
  ·intro h;rw [h];rfl
  ·intro h;exact UInt8.toNat_inj.1 h
 have HFF:=hid (fun W=>Tryz.strings_FieldsFunc 85 #[] (enters_of Tryz.func85 (by kernel_rfl) rfl) (fun c=>c == 47) path W (by omega) (tpred_at W))
 have V1:=EB.start h hB from_
 obtain ⟨bt,hbt⟩:∃ bt,bt = w.heap.size:=⟨_,rfl⟩
 rw [<- hbt] at V1
 obtain ⟨W1,hW1⟩:∃ W1,W1 = (w.alloc (.cells #[.pointer (some ⟨t,0,none⟩)] tPTree)).alloc (.cells #[.int .i64 from_] tInt):=⟨_,rfl⟩
 rw [<- hW1] at V1
 have HV1:=hid V1
 have HV0:=hid h
 have HB:=hid hB
 have HI:=hid hI
 have HBG:=hid hbg
 have HB47:=hid hb47
 have HLEFT:=hid hleft
 have HSZ:Hid (path.size <= 128):=hid (by omega)
 clear h hB hI hs1 hs2 hs3 hbg hlt hby0 hb47 V1 hleft
 go_enter Tryz.func43,Tryz.ntmps43
 go_wp2_with fail
 refine (HCO.out _).mono ?_
 rintro e w1 ⟨rfl,rfl⟩
 rw [HD.out]
 by_cases h47:by0 = 47
 ·have b47:((by0:Int) == 47) = true:=by rw [beq_iff_eq];omega
  have hbeg:beginE T from_ path = 0:=by unfold beginE;rw [if_neg HBG.out,if_pos (HB47.out.2 h47)]
  have hbn:beginN from_ path = 0:=by unfold beginN;rw [if_pos (HB47.out.2 h47)]
  have HBEG:=hid hbeg
  obtain ⟨k0,hk0⟩:∃ k0:Nat,k0 = 0:=⟨_,rfl⟩
  have HBN:Hid (beginN from_ path = k0):=hid (hbn.trans hk0.symm)
  have HK32:Hid (k0 < 32 /\ (T k0).kind ≠ 0):=hid (by rw [hk0];exact ⟨by omega,by rw [HI.out.root];decide⟩)
  clear h47 hbeg hbn
  go_wp2_with fail
  have HVK:Hid (VT c p S0 w0 v b d m (volT T) A0 (EB t b v w.heap.size (w.heap.size + 1) T k0 B) ((w.alloc (.cells #[.pointer (some ⟨t,0,none⟩)] tPTree)).alloc (.cells #[.int .i64 0] tInt))):=hid (by rw [hk0];exact EB.start HV0.out HB.out 0)
  clear hk0
  refine (HFF.out _).mono ?_
  rintro e w2 ⟨a,rfl,hA,hown,hbel⟩
  have hlen:(partsT path).length <= maxLen:=by
   rcases hown.2 with ⟨h1,_⟩ | ⟨g,cap,cur,h1,_,_,h2,h3,_⟩
   ·cases h1
   ·exact Nat.le_trans h2 h3
  have V2:=VT.parts (l:=partsT path) HVK.out HB.out hA hown hbel
  have hpt:Lib.goFieldsP (fun c=>c == 47) path = partsT path:=rfl
  rw [hpt]
  obtain ⟨l,hl⟩:∃ l,l = partsT path:=⟨_,rfl⟩
  rw [<- hl] at V2 hlen ⊢
  obtain ⟨n1,hn1⟩:∃ n1,n1 = l.length:=⟨_,rfl⟩
  rw [<- hn1] at hlen ⊢
  obtain ⟨ml,hml⟩:∃ ml,ml = min left n1:=⟨_,rfl⟩
  obtain ⟨kk,hkk⟩:∃ kk,kk = n1 - ml:=⟨_,rfl⟩
  have hml1:ml <= n1:=by rw [hml];exact Nat.min_le_right _ _
  have hmx:n1 <= 9223372036854775807:=by unfold maxLen at hlen;omega
  have hmin:min (left:Int) (n1:Int) = (ml:Int):=by omega
  have hsub:IntKind.i64.wrap ((n1:Int) - (ml:Int)) = (kk:Int):=by rw [IntKind.wrap_i64] <;> omega
  have hsub2:((n1:Int) - (kk:Int)) = (ml:Int):=by omega
  have hkn:(kk:Int) <= (n1:Int):=by omega
  have hkn':kk <= n1:=by omega
  have HV2:=hid V2
  have HL:=hid hl
  have HN1:=hid hn1
  have HML:=hid hml
  have HKK:=hid hkk
  have HMX:=hid hmx
  clear hA hown hbel V2 hlen hpt hl hn1 hml hkk hmx HVK hml1
  go_wp2_with fail
  go_loopw [15,16,51] (fun _ _ s51 wr=>∃ j cur:Nat,j <= kk /\ s51 = .int .i64 j /\ cur < 32 /\ (T cur).kind ≠ 0 /\ alongT T k0 (l.take kk) = alongT T cur ((l.take kk).drop j) /\ VT c p S0 w0 v b d m (volT T) A0 (EB t b v w.heap.size (w.heap.size + 1) T cur (Star (prtA a l) B)) wr) (fun _ _ s51 _=>kk - (intOf s51).toNat)
  case atStart=>exact ⟨0,k0,Nat.zero_le _,rfl,HK32.out.1,HK32.out.2,rfl,HV2.out⟩
  case round =>
   obtain ⟨j,cur,hj,rfl,hc32,hck,hal,hV⟩:=hrel
   have hBP:Loc (Star (prtA a l) B):=loc_star (loc_row _ _ _ _ _) HB.out
   have HBP:=hid hBP
   by_cases hlt:j < kk
   ·have hjn:j < l.length:=by have:=HN1.out;omega
    obtain ⟨part,hpart⟩:∃ part,l[j]? = some part:=⟨_,List.getElem?_eq_getElem hjn⟩
    have q0:=EB.parts hV hpart
    have hlt':(j:Int) < (kk:Int):=by omega
    have hln:(j:Int) < (n1:Int):=by omega
    have hw1:IntKind.i64.wrap ((j:Int) + 1) = ((j + 1:Nat):Int):=by have:=HMX.out;rw [IntKind.wrap_i64] <;> omega
    have HST:=tstep_calls hV hBP HI.out hc32 part
    have hdr:(l.take kk).drop j = part :: (l.take kk).drop (j + 1):=by
     rw [List.drop_eq_getElem_cons (by rw [List.length_take];omega)]
     congr 1
     rw [List.getElem_take]
     exact Option.some.inj ((List.getElem?_eq_getElem hjn).symm.trans hpart)
    rw [hdr,alongT_cons] at hal
    obtain ⟨sE,hsE⟩:∃ sE,sE = stepE T cur part:=⟨_,rfl⟩
    have hok:=fun h=>stepT_ok (p:=part) HI.out hc32 h hck
    rw [<- hsE] at HST hal hok
    have HST:=hid HST
    have HAL:=hid hal
    have HOK:=hid hok
    clear hV hBP hpart hdr hal hsE hok hc32 hck HV2
    by_cases h0:sE = 0
    ·have e0:(sE != 0) = false:=by simpa using h0
     have H0:=hid h0
     clear h0
     go_wp2_with fail
     refine HST.out.mono ?_
     rintro e w5 ⟨rfl,V5⟩
     have HV5:=hid V5
     clear V5 q0 HST
     go_wp2_with fail
     go_roundw
     case rel =>
      obtain ⟨o1,o2⟩:=HOK.out H0.out
      refine ⟨j + 1,stepN T cur part,hlt,by go_num,o1,o2,?_,HV5.out⟩
      have:=HAL.out
      rw [if_neg (not_not_intro H0.out)] at this
      exact this
     case measure=>simp [intOf];omega
    ·have e0:(sE != 0) = true:=by simpa using h0
     have H0:=hid h0
     clear h0
     go_wp2_with fail
     refine HST.out.mono ?_
     rintro e w5 ⟨rfl,V5⟩
     have HV5:=hid V5
     clear V5 q0 HST
     go_wp2_with fail
     go_ret3
     have hwk:walkT T from_ path left = (0,[],sE):=by
      have h1:=HAL.out
      rw [if_pos H0.out] at h1
      unfold walkT
      rw [HBEG.out,if_neg (by decide),HBN.out,<- HL.out,<- HN1.out,show n1 - left = kk by have:=HKK.out;have:=HML.out;omega,h1,if_pos H0.out]
     rw [hwk]
     exact .inl ⟨H0.out,rfl,(EB.fin HV5.out).map fun _ _ h=>star_less h⟩
   ·obtain rfl:j = kk:=by omega
    obtain ⟨c2,c3⟩:=EB.cells hV
    have q3:=c3.cell (j:=0) rfl
    have hnlt:¬ (j:Int) < (j:Int):=by omega
    have HV6:=hid hV
    have HAL:=hid hal
    clear hV hal c2 c3 HV2
    go_wp2_with fail
    go_region
    all_goals go_wp2_with fail
    all_goals
     go_ret3
     have h1:=HAL.out
     rw [List.drop_of_length_le (by rw [List.length_take];exact Nat.min_le_left _ _)] at h1
     have hnl:n1 - left = j:=by have:=HKK.out;have:=HML.out;omega
     have hwk:walkT T from_ path left = (cur,l.drop j,0):=by
      unfold walkT
      rw [HBEG.out,if_neg (by decide),HBN.out,<- HL.out,<- HN1.out,hnl,h1]
      show (if (0:Int) ≠ 0 then _ else _) = _
      rw [if_neg (by decide)]
      rfl
     rw [hwk]
     have hm:=HML.out
     have hm2:=HKK.out
     first
      | (have h0:ml = 0:=by omega
         refine .inr ⟨rfl,a,0,fun h=>absurd (by rw [<- HL.out,<- HN1.out,<- hm];exact h0) h,?_,?_⟩
         ·rw [<- HL.out,<- HN1.out,<- hm,h0]
          rfl
         all_goals skip)
      | (refine .inr ⟨rfl,a,j,fun _=>by rw [<- HL.out,<- HN1.out,<- HML.out,<- HKK.out],?_,?_⟩
         ·rw [<- HL.out,<- HN1.out,<- hm]
          have hmj:n1 - j = ml:=by omega
          rw [<- hmj]
          rfl
         all_goals skip)
     ·rw [<- HL.out]
      have h9:=(EB.fin HV6.out)
      first
       | exact h9
       | exact h9.keep (loc_star (loc_blk _ _ _) (loc_star (loc_row _ _ _ _ _) HB.out)) (Fr.refl _ _).drew
 ·have b47:((by0:Int) == 47) = false:=by rw [beq_eq_false_iff_ne];omega
  have hn47:¬ path.data.toList.getD 0 0 = 47:=fun h=>h47 (HB47.out.1 h)
  have HN47:=hid hn47
  have HISD0:=tisdir_calls HV1.out (loc_star (loc_blk _ _ _) (loc_star (loc_blk _ _ _) HB.out)) from_
  rw [adir_vol,hW1,hbt] at HISD0
  obtain ⟨isd,hisd⟩:∃ isd,isd = isDirT T from_:=⟨_,rfl⟩
  rw [<- hisd] at HISD0
  have HISD0:=hid HISD0
  have HIS:=hid hisd
  clear h47 hn47 hisd
  go_wp2_with fail
  refine HISD0.out.mono ?_
  rintro e w3 ⟨rfl,V3⟩
  have HV3:=hid V3
  clear V3
  cases isd with
  | false =>
   have hE:beginE T from_ path = 1:=by unfold beginE;rw [if_neg HBG.out,if_neg HN47.out,if_pos HIS.out.symm]
   have hw:walkT T from_ path left = (0,[],1):=by unfold walkT;rw [hE,if_pos (by decide)]
   have HW:=hid hw
   clear hE hw
   go_wp2_with fail
   go_ret3
   rw [HW.out]
   exact .inl ⟨by decide,rfl,EB.fin HV3.out⟩
  | true =>
   obtain ⟨f0,f32,fk⟩:=isDir_iff.1 HIS.out.symm
   obtain ⟨k0,hk0⟩:∃ k0:Nat,from_ = k0:=⟨from_.toNat,by omega⟩
   have hbeg:beginE T from_ path = 0:=by unfold beginE;rw [if_neg HBG.out,if_neg HN47.out,if_neg (by rw [<- HIS.out];decide)]
   have hbn:beginN from_ path = k0:=by unfold beginN;rw [if_neg HN47.out,hk0];rfl
   have HBEG:=hid hbeg
   have HBN:=hid hbn
   have HK32:Hid (k0 < 32 /\ (T k0).kind ≠ 0):=hid (by rw [hk0] at fk f32;exact ⟨by omega,by rw [show (T k0).kind = 2 from fk];decide⟩)
   have HVK:Hid (VT c p S0 w0 v b d m (volT T) A0 (EB t b v w.heap.size (w.heap.size + 1) T k0 B) w3):=hid (by rw [<- hk0];exact HV3.out)
   clear f0 f32 fk hbeg hbn hk0
   go_wp2_with fail
   refine (HFF.out _).mono ?_
   rintro e w2 ⟨a,rfl,hA,hown,hbel⟩
   have hlen:(partsT path).length <= maxLen:=by
    rcases hown.2 with ⟨h1,_⟩ | ⟨g,cap,cur,h1,_,_,h2,h3,_⟩
    ·cases h1
    ·exact Nat.le_trans h2 h3
   have V2:=VT.parts (l:=partsT path) HVK.out HB.out hA hown hbel
   have hpt:Lib.goFieldsP (fun c=>c == 47) path = partsT path:=rfl
   rw [hpt]
   obtain ⟨l,hl⟩:∃ l,l = partsT path:=⟨_,rfl⟩
   rw [<- hl] at V2 hlen ⊢
   obtain ⟨n1,hn1⟩:∃ n1,n1 = l.length:=⟨_,rfl⟩
   rw [<- hn1] at hlen ⊢
   obtain ⟨ml,hml⟩:∃ ml,ml = min left n1:=⟨_,rfl⟩
   obtain ⟨kk,hkk⟩:∃ kk,kk = n1 - ml:=⟨_,rfl⟩
   have hml1:ml <= n1:=by rw [hml];exact Nat.min_le_right _ _
   have hmx:n1 <= 9223372036854775807:=by unfold maxLen at hlen;omega
   have hmin:min (left:Int) (n1:Int) = (ml:Int):=by omega
   have hsub:IntKind.i64.wrap ((n1:Int) - (ml:Int)) = (kk:Int):=by rw [IntKind.wrap_i64] <;> omega
   have hsub2:((n1:Int) - (kk:Int)) = (ml:Int):=by omega
   have hkn:(kk:Int) <= (n1:Int):=by omega
   have hkn':kk <= n1:=by omega
   have HV2:=hid V2
   have HL:=hid hl
   have HN1:=hid hn1
   have HML:=hid hml
   have HKK:=hid hkk
   have HMX:=hid hmx
   clear hA hown hbel V2 hlen hpt hl hn1 hml hkk hmx HVK hml1
   go_wp2_with fail
   go_loopw [15,16,51] (fun _ _ s51 wr=>∃ j cur:Nat,j <= kk /\ s51 = .int .i64 j /\ cur < 32 /\ (T cur).kind ≠ 0 /\ alongT T k0 (l.take kk) = alongT T cur ((l.take kk).drop j) /\ VT c p S0 w0 v b d m (volT T) A0 (EB t b v w.heap.size (w.heap.size + 1) T cur (Star (prtA a l) B)) wr) (fun _ _ s51 _=>kk - (intOf s51).toNat)
   case atStart=>exact ⟨0,k0,Nat.zero_le _,rfl,HK32.out.1,HK32.out.2,rfl,HV2.out⟩
   case round =>
    obtain ⟨j,cur,hj,rfl,hc32,hck,hal,hV⟩:=hrel
    have hBP:Loc (Star (prtA a l) B):=loc_star (loc_row _ _ _ _ _) HB.out
    have HBP:=hid hBP
    by_cases hlt:j < kk
    ·have hjn:j < l.length:=by have:=HN1.out;omega
     obtain ⟨part,hpart⟩:∃ part,l[j]? = some part:=⟨_,List.getElem?_eq_getElem hjn⟩
     have q0:=EB.parts hV hpart
     have hlt':(j:Int) < (kk:Int):=by omega
     have hln:(j:Int) < (n1:Int):=by omega
     have hw1:IntKind.i64.wrap ((j:Int) + 1) = ((j + 1:Nat):Int):=by have:=HMX.out;rw [IntKind.wrap_i64] <;> omega
     have HST:=tstep_calls hV hBP HI.out hc32 part
     have hdr:(l.take kk).drop j = part :: (l.take kk).drop (j + 1):=by
      rw [List.drop_eq_getElem_cons (by rw [List.length_take];omega)]
      congr 1
      rw [List.getElem_take]
      exact Option.some.inj ((List.getElem?_eq_getElem hjn).symm.trans hpart)
     rw [hdr,alongT_cons] at hal
     obtain ⟨sE,hsE⟩:∃ sE,sE = stepE T cur part:=⟨_,rfl⟩
     have hok:=fun h=>stepT_ok (p:=part) HI.out hc32 h hck
     rw [<- hsE] at HST hal hok
     have HST:=hid HST
     have HAL:=hid hal
     have HOK:=hid hok
     clear hV hBP hpart hdr hal hsE hok hc32 hck HV2
     by_cases h0:sE = 0
     ·have e0:(sE != 0) = false:=by simpa using h0
      have H0:=hid h0
      clear h0
      go_wp2_with fail
      refine HST.out.mono ?_
      rintro e w5 ⟨rfl,V5⟩
      have HV5:=hid V5
      clear V5 q0 HST
      go_wp2_with fail
      go_roundw
      case rel =>
       obtain ⟨o1,o2⟩:=HOK.out H0.out
       refine ⟨j + 1,stepN T cur part,hlt,by go_num,o1,o2,?_,HV5.out⟩
       have:=HAL.out
       rw [if_neg (not_not_intro H0.out)] at this
       exact this
      case measure=>simp [intOf];omega
     ·have e0:(sE != 0) = true:=by simpa using h0
      have H0:=hid h0
      clear h0
      go_wp2_with fail
      refine HST.out.mono ?_
      rintro e w5 ⟨rfl,V5⟩
      have HV5:=hid V5
      clear V5 q0 HST
      go_wp2_with fail
      go_ret3
      have hwk:walkT T from_ path left = (0,[],sE):=by
       have h1:=HAL.out
       rw [if_pos H0.out] at h1
       unfold walkT
       rw [HBEG.out,if_neg (by decide),HBN.out,<- HL.out,<- HN1.out,show n1 - left = kk by have:=HKK.out;have:=HML.out;omega,h1,if_pos H0.out]
      rw [hwk]
      exact .inl ⟨H0.out,rfl,(EB.fin HV5.out).map fun _ _ h=>star_less h⟩
    ·obtain rfl:j = kk:=by omega
     obtain ⟨c2,c3⟩:=EB.cells hV
     have q3:=c3.cell (j:=0) rfl
     have hnlt:¬ (j:Int) < (j:Int):=by omega
     have HV6:=hid hV
     have HAL:=hid hal
     clear hV hal c2 c3 HV2
     go_wp2_with fail
     go_region
     all_goals go_wp2_with fail
     all_goals
      go_ret3
      have h1:=HAL.out
      rw [List.drop_of_length_le (by rw [List.length_take];exact Nat.min_le_left _ _)] at h1
      have hnl:n1 - left = j:=by have:=HKK.out;have:=HML.out;omega
      have hwk:walkT T from_ path left = (cur,l.drop j,0):=by
       unfold walkT
       rw [HBEG.out,if_neg (by decide),HBN.out,<- HL.out,<- HN1.out,hnl,h1]
       show (if (0:Int) ≠ 0 then _ else _) = _
       rw [if_neg (by decide)]
       rfl
      rw [hwk]
      have hm:=HML.out
      have hm2:=HKK.out
      first
       | (have h0:ml = 0:=by omega
          refine .inr ⟨rfl,a,0,fun h=>absurd (by rw [<- HL.out,<- HN1.out,<- hm];exact h0) h,?_,?_⟩
          ·rw [<- HL.out,<- HN1.out,<- hm,h0]
           rfl
          all_goals skip)
       | (refine .inr ⟨rfl,a,j,fun _=>by rw [<- HL.out,<- HN1.out,<- HML.out,<- HKK.out],?_,?_⟩
          ·rw [<- HL.out,<- HN1.out,<- hm]
           have hmj:n1 - j = ml:=by omega
           rw [<- hmj]
           rfl
          all_goals skip)
      ·rw [<- HL.out]
       have h9:=(EB.fin HV6.out)
       first
        | exact h9
        | exact h9.keep (loc_star (loc_blk _ _ _) (loc_star (loc_row _ _ _ _ _) HB.out)) (Fr.refl _ _).drew
end
end
end Go.Proofs.YtngalllaiphkhaaGreatDoor
