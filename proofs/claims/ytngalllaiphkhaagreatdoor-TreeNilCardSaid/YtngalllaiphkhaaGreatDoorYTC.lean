import Derived.Test.YtngalllaiphkhaaGreatDoorYTA
import Derived.Test.YtngalllaiphkhaaGreatDoorShelfT
namespace Go.Proofs.YtngalllaiphkhaaGreatDoor
open Go.RowKit
open Go.Lib (hid)
set_option maxRecDepth 100000
set_option maxHeartbeats 16000000
set_option linter.unusedVariables false
set_option linter.unusedSimpArgs false
abbrev tTree:Nat:=96
abbrev tPTree:Nat:=24
abbrev tEnt:Nat:=103
abbrev tStat9:Nat:=30
def heldL (T:Tr) (k:Nat):List Value:=(List.range k).map fun n=>.int .i64 (T n).held
def treeL (b v:Nat) (T:Tr) (dead:Bool):List Value:=.pointer (some ⟨b,0,none⟩) :: .pointer (some ⟨v,0,none⟩) :: (heldL T 32 ++ [.bool dead])
abbrev trA (t b v:Nat) (T:Tr):Asr:=blkA t tTree (treeL b v T false)
theorem heldL_len (T:Tr) (k:Nat):(heldL T k).length = k:=by simp [heldL]
theorem treeL_held (b v:Nat) (T:Tr) (dead:Bool) {n:Nat} (hn:n < 32):(treeL b v T dead)[2 + n]? = some (.int .i64 (T n).held):=by
 rw [show 2 + n = n + 1 + 1 by omega]
 unfold treeL
 rw [List.getElem?_cons_succ,List.getElem?_cons_succ,List.getElem?_append_left (by rw [heldL_len];exact hn)]
 simp [heldL,hn]
theorem treeL_dead (b v:Nat) (T:Tr) (dead:Bool):(treeL b v T dead)[34]? = some (.bool dead):=rfl
theorem named_size {s:ByteArray} (h:namedT s = true):s.size <= 14:=(named_iff.1 h).2.1
theorem txtB_is (k:Nat) (s:ByteArray) (Z:ByteArray) (hZ:Z.data.toList = List.replicate (14 - s.size) 0):((⟨(leBytes k 2).toArray⟩:ByteArray) ++ s) ++ Z = txtB k s:=by
 refine bytes_ext ?_
 rw [toList_append,toList_append,hZ]
 show (leBytes k 2 ++ s.data.toList) ++ _ = txtT k s
 rw [leBytes2]
 rfl
theorem ttext_calls (i:Int) (k:Nat) (hi:i + 1 = k) (hk:k < 65536) (s:ByteArray) (hs:s.size <= 14) (w:World) :
 Calls Tryz.prog 49 #[.agg #[.int .i64 i,.string s]] w fun e w'=>e = .returned (.string (txtB k s)) /\ Fr Nob w w':=by
 have hw1:IntKind.i64.wrap (i + 1) = (k:Int):=by rw [hi];rw [IntKind.wrap_i64] <;> omega
 have hw2:IntKind.u64.wrap (k:Int) = (k:Int):=wraps_u64 _ (by omega) (by omega)
 have hw3:IntKind.i64.wrap ((14:Int) - (s.size:Int)) = ((14 - s.size:Nat):Int):=by
  rw [show (14:Int) - (s.size:Int) = ((14 - s.size:Nat):Int) by omega]
  rw [IntKind.wrap_i64] <;> omega
 have hby:∀ W:World,Calls Tryz.prog 103 #[.int .u64 k,.int .i64 2] W fun e w'=>e = .returned (.string ⟨(leBytes k 2).toArray⟩) /\ Fr Nob W w':=fun W=>wbytes_calls k 2 W (by omega) (by omega) (by omega)
 obtain ⟨Z,hZ⟩:∃ Z:ByteArray,Z = ⟨(Lib.repeatL (⟨#[0]⟩:ByteArray).data.toList (14 - s.size)).toArray⟩:=⟨_,rfl⟩
 have hrp:∀ W:World,Calls Tryz.prog 58 #[.string ⟨#[0]⟩,.int .i64 (14 - s.size:Nat)] W fun e w'=>e = .returned (.string Z) /\ Fr Nob W w':=fun W =>
  (Tryz.strings_Repeat (⟨#[0]⟩:ByteArray) (14 - s.size) W (by omega) (by show 1 * (14 - s.size) <= _;omega)).mono fun _ _ ⟨e1,e2⟩=>⟨by rw [hZ];exact e1,Fr.of_below e2 (fun _ h _=>h)⟩
 have hZl:Z.data.toList = List.replicate (14 - s.size) 0:=by rw [hZ,rep_zero]
 have hZs:Z.size = 14 - s.size:=by rw [<- bytes_len,hZl,List.length_replicate]
 have hfin:=txtB_is k s Z hZl
 have l1:(⟨(leBytes k 2).toArray⟩:ByteArray).size = 2:=by rw [size_of_list,leBytes_length]
 have HBY:=hid hby
 have HRP:=hid hrp
 have HFIN:=hid hfin
 have hL2:((⟨(leBytes k 2).toArray⟩:ByteArray) ++ s).size = 2 + s.size:=by rw [ByteArray.size_append,l1]
 clear hby hrp hfin hZ hZl hi
 obtain ⟨Y,hY⟩:∃ Y:ByteArray,Y = ⟨(leBytes k 2).toArray⟩:=⟨_,rfl⟩
 rw [<- hY] at HBY HFIN l1 hL2
 clear hY
 have a1:Y.size + s.size <= 9223372036854775807:=by omega
 have a2:(Y ++ s).size + Z.size <= 9223372036854775807:=by omega
 clear l1 hL2 hZs
 have n1:∀ W:World,(Op.stringOp .add Y s).run Tryz.prog W = .ok (.string (Y ++ s)) W:=fun W=>run_string_add_sum W _ _ a1
 have n2:∀ W:World,(Op.stringOp .add (Y ++ s) Z).run Tryz.prog W = .ok (.string (Y ++ s ++ Z)) W:=fun W=>run_string_add_sum W _ _ a2
 go_enter Tryz.func49,Tryz.ntmps49
 go_wp2_with fail
 have hb0:=Blk.new w tEnt [.int .i64 i,.string s]
 have hf0:Fr Nob w (w.alloc (.cells #[.int .i64 i,.string s] tEnt)):=(Fr.refl _ _).alloc _
 have hsame:w.alloc (.cells #[.int .i64 i,.string s] tEnt) = w.alloc (.cells ([Value.int .i64 i,.string s]).toArray tEnt):=rfl
 rw [hsame] at hf0
 rw [hsame]
 generalize w.alloc (.cells ([Value.int .i64 i,.string s]).toArray tEnt) = w1 at *
 have hcp0:∀ p:FrFrom w1,p.w.cell? ⟨w.heap.size,0,none⟩ = some (.int .i64 i):=fun p=>p.fr.cell (hb0.cell (j:=0) rfl) (fun h=>h)
 have hcp1:∀ p:FrFrom w1,p.w.cell? ⟨w.heap.size,1,none⟩ = some (.string s):=fun p=>p.fr.cell (hb0.cell (j:=1) rfl) (fun h=>h)
 have HF0:=hid hf0
 clear hsame hb0 hf0
 refine wp_region_from (by kernel_rfl) (by kernel_rfl) ?_
 repeat (quiet_step (first | (go_at_call 103;exact Calls.frfrom (HBY.out _)) | (go_at_call 58;exact Calls.frfrom (HRP.out _))))
 refine wpQuiet_nil ?_
 rintro _ ⟨p,rfl⟩
 go_wp2_with fail
 go_ret
 exact ⟨by show Ending.returned (.string (Y ++ s ++ Z)) = _;rw [HFIN.out],HF0.out.trans p.fr⟩
section
variable {S0:Nat -> Prop} {w0 w:World} {t v b d m c:Nat} {p:Int} {A A0:Nat -> Node} {T:Tr} {B R:Asr}
theorem VT.blk {x e:Nat} {cs:List Value} (h:VT c p S0 w0 v b d m A A0 (Star (blkA x e cs) B) w):Blk w x e cs:=by
 obtain ⟨L,H,X,⟨_,⟨_,_,_,⟨_,_,_,⟨_,_,_,⟨_,_,h1,_⟩,_⟩,_⟩,_⟩,_⟩,_⟩:=h
 exact h1.1
theorem VT.less (h:VT c p S0 w0 v b d m A A0 (Star R B) w):VT c p S0 w0 v b d m A A0 B w:=by
 obtain ⟨L,H,X,h1,h2⟩:=h
 exact ⟨L,H,X,VV.less h1,h2⟩
theorem VT.flip {R':Asr} (h:VT c p S0 w0 v b d m A A0 (Star R (Star R' B)) w):VT c p S0 w0 v b d m A A0 (Star R' (Star R B)) w:=h.map fun _ _ h=>star_flip h
def adirB (A:Nat -> Node) (n:Int):Bool:=decide (afindE A n = 0 /\ (A n.toNat).kind = 2)
theorem adir_vol (T:Tr) (n:Int):adirB (volT T) n = isDirT T n:=by
 unfold adirB isDirT
 rw [find_vol,decide_eq_decide]
 show tfindE T n = 0 /\ (nodeT (T n.toNat)).kind = 2 ↔ _
 rw [nodeT_kind]
 unfold tfindE
 constructor
 ·rintro ⟨h1,h2⟩
  split at h1
  ·omega
  ·exact ⟨by omega,by omega,h2⟩
 ·rintro ⟨h1,h2,h3⟩
  rw [if_neg (by omega),if_neg (by omega)]
  exact ⟨rfl,h3⟩
theorem tisdir_calls (h:VT c p S0 w0 v b d m A A0 (Star (trA t b v T) B) w) (hB:Loc B) (n:Int) :
 Calls Tryz.prog 52 #[.pointer (some ⟨t,0,none⟩),.int .i64 n] w fun e w'=>e = .returned (.bool (adirB A n)) /\ VT c p S0 w0 v b d m A A0 (Star (trA t b v T) B) w':=by
 have k1:=h.blk.cell (j:=1) rfl
 have HS:=t_stat h (loc_star (loc_blk _ _ _) hB) n
 obtain ⟨x0,x1,x2,hx⟩:∃ x0 x1 x2:Int,(if afindE A n = 0 then nstatV (A n.toNat) else nstatV Node.free) = .agg #[.int .i64 x0,.int .i64 x1,.int .i64 x2]:=by
  split
  ·exact ⟨_,_,_,rfl⟩
  ·exact ⟨_,_,_,rfl⟩
 rw [hx] at HS
 obtain ⟨gE,hgE⟩:∃ x,x = afindE A n:=⟨_,rfl⟩
 rw [<- hgE] at HS
 have hres:((gE == 0) && (x0 == 2)) = adirB A n:=by
  unfold adirB
  rw [<- hgE]
  by_cases h0:gE = 0
  ·rw [if_pos (by rw [<- hgE];exact h0)] at hx
   unfold nstatV at hx
   simp only [Value.agg.injEq,Array.mk.injEq,List.cons.injEq,Value.int.injEq,true_and,and_true] at hx
   obtain ⟨hx0,_⟩:=hx
   subst h0
   rw [<- hx0]
   simp only [BEq.rfl,Bool.true_and,true_and]
   by_cases h2:(A n.toNat).kind = 2
   ·rw [h2];rfl
   ·rw [decide_eq_false h2,beq_eq_false_iff_ne];omega
  ·rw [decide_eq_false (by omega),beq_eq_false_iff_ne.2 h0,Bool.false_and]
 have HRES:=hid hres
 have HS:=hid HS
 have HB:=hid hB
 clear hx hgE hres h hB
 go_enter Tryz.func52,Tryz.ntmps52
 go_wp2_with fail
 refine HS.out.mono ?_
 clear HS
 rintro e w1 ⟨rfl,V1⟩
 have HV:=hid V1
 clear V1 k1
 by_cases h0:gE = 0
 ·have e0:(gE == 0) = true:=by simpa using h0
  rw [e0,Bool.true_and] at HRES
  go_wp2_with fail
  go_ret
  exact ⟨by show Ending.returned (.bool (x0 == 2)) = _;rw [HRES.out],HV.out.keep (loc_star (loc_blk _ _ _) HB.out) ((Fr.refl _ _).alloc _)⟩
 ·have e0:(gE == 0) = false:=by simpa using h0
  rw [e0,Bool.false_and] at HRES
  go_wp2_with fail
  go_ret
  exact ⟨by show Ending.returned (.bool false) = _;rw [HRES.out],HV.out.keep (loc_star (loc_blk _ _ _) HB.out) ((Fr.refl _ _).alloc _)⟩
theorem talive_calls (h:VT c p S0 w0 v b d m A A0 (Star (trA t b v T) B) w) (hB:Loc B) :
 Calls Tryz.prog 42 #[.pointer (some ⟨t,0,none⟩)] w fun e w'=>e = .returned (.int .i64 0) /\ VT c p S0 w0 v b d m A A0 (Star (trA t b v T) B) w':=by
 have k0:=h.blk.cell (j:=0) rfl
 have k34:=h.blk.cell (j:=34) (treeL_dead b v T false)
 have HG:=hid (t_get h (loc_star (loc_blk _ _ _) hB))
 clear h hB
 go_enter Tryz.func42,Tryz.ntmps42
 go_wp2_with fail
 refine HG.out.mono ?_
 clear HG
 rintro e w1 ⟨s,rfl,V1⟩
 have HV:=hid V1
 clear V1 k0 k34
 go_wp2_with fail
 go_ret
 exact ⟨rfl,HV.out⟩
def Ends (p:Int) (S0:Nat -> Prop) (w0:World) (t v b d m:Nat) (A A0:Nat -> Node) (T:Tr) (B:Asr) (e:Ending) (w':World):Prop :=
 (e = .returned (.int .i64 0) /\ ∃ p',(p = -1 -> p' = -1) /\ VT 0 p' S0 w0 v b d m A A (Star (trA t b v T) B) w') \/
 (p ≠ -1 /\ e = .returned (.int .i64 7) /\ DT S0 w0 d m A A0 (Star (blkA t tTree (treeL b v T true)) B) w')
theorem tends_ok (h:VT c p S0 w0 v b d m A A0 (Star (trA t b v T) B) w) (hB:Loc B) :
 Calls Tryz.prog 51 #[.pointer (some ⟨t,0,none⟩),.int .i64 0] w (Ends p S0 w0 t v b d m A A0 T B):=by
 have k0:=h.blk.cell (j:=0) rfl
 have HC:=hid (t_commit h (loc_star (loc_blk _ _ _) hB))
 have HB:=hid hB
 clear h hB
 go_enter Tryz.func51,Tryz.ntmps51
 go_wp2_with fail
 refine HC.out.mono ?_
 clear HC
 rintro e w1 (⟨rfl,p',hp',V1⟩ | ⟨hp,rfl,D1⟩)
 ·have HV:=hid V1
  clear V1 k0
  go_wp2_with fail
  go_ret
  exact .inl ⟨rfl,p',hp',HV.out⟩
 ·obtain ⟨D,H,l,hL,hrest⟩:=D1
  have hbk:Blk w1 t tTree (treeL b v T false):=by
   obtain ⟨_,⟨_,_,_,⟨_,_,h1,_⟩,_⟩,_⟩:=hL
   exact h1.1
  have k34:=hbk.cell (j:=34) (treeL_dead b v T false)
  have f34:=hbk.free 34
  have HL:=hid hL
  have HR:=hid hrest
  clear hbk k0 hL hrest
  go_wp2_with fail
  go_ret
  refine .inr ⟨hp,rfl,D,H,l,?_,HR.out⟩
  have h2:=(HL.out.map fun _ h=>star_flip h).turn (loc_star (loc_dsk _ _ _) HB.out) (turn_blk 34 (.bool true))
  exact h2.map fun _ h=>star_flip h
theorem tends_bad (h:VT c p S0 w0 v b d m A A0 (Star (trA t b v T) B) w) (hB:Loc B) {x:Int} (hx:x ≠ 0) :
 Calls Tryz.prog 51 #[.pointer (some ⟨t,0,none⟩),.int .i64 x] w fun e w'=>e = .returned (.int .i64 x) /\ VT 0 p S0 w0 v b d m A0 A0 (Star (trA t b v T) B) w':=by
 have k0:=h.blk.cell (j:=0) rfl
 have HC:=hid (t_abort h (loc_star (loc_blk _ _ _) hB))
 have ex:(x != 0) = true:=by simpa using hx
 clear h hB hx
 go_enter Tryz.func51,Tryz.ntmps51
 go_wp2_with fail
 refine HC.out.mono ?_
 clear HC
 rintro e w1 ⟨rfl,V1⟩
 have HV:=hid V1
 clear V1 k0
 go_wp2_with fail
 go_ret
 exact ⟨rfl,HV.out⟩
end
structure Wd (C:World -> Prop) where
 w:World
 h:C w
theorem wp_region_wd {P:Program} {id:Nat} {Q:Exit -> Act -> World -> Prop} {a:Act} {w:World} {l:List Oper} (C:World -> Prop) (h0:C w.drew) (hm:P.follows .mixedOrders = true) (hB:Region.lexB .any l.toArray = true)
 (h:wpQuiet P l.toArray (fun w'=>∃ p:Wd C,w' = p.w) (fun a'=>∀ w',(∃ p:Wd C,w' = p.w) -> Q .normal a' w') l a):(Code.region id l.toArray true).wp P Q a w :=
 wp_region_quiet (C:=fun w'=>∃ p:Wd C,w' = p.w) hm hB ⟨⟨w.drew,h0⟩,rfl⟩ (by simpa using h)
theorem Calls.wd {P:Program} {f:FuncId} {args:Array Value} {C:World -> Prop} {p:Wd C} {v:Value} (h:Calls P f args p.w fun e w'=>e = .returned v /\ C w') :
 Calls P f args p.w fun e w''=>e = .returned v /\ ∃ q:Wd C,w'' = q.w :=
 h.mono fun _ w' ⟨he,hf⟩=>⟨he,⟨w',hf⟩,rfl⟩
section
variable {S0:Nat -> Prop} {w0 w:World} {A:Asr}
theorem wpIn_range_lvx {F:Fence} {n:Nat} {P:Program} {g:Operand} {ps:Array Tmp} {assign body:Code} {Q:Exit -> Act -> World -> Prop} {a:Act}
 (hro:F.round = none) (h1:1 <= n) {gf:Nat} {lb:Array Value} (hg:a.eval g = .func (.func gf) #[] lb) (hFg:F.fn gf) (eg:∀ args w,(callFunc gf args).run P w = .ok (.enter gf args) w)
 (A:Nat -> Asr) (Ax:Code -> Nat -> Asr) (hA:∀ k,Loc (A k)) (hAx:∀ c k,Loc (Ax c k)) (N:Nat) (encs:Nat -> Array Value) (hps:∀ k,(encs k).size = ps.size) (a₁:Nat -> Nat -> Act) (Ab:Nat -> Nat -> Asr) (hAb:∀ x k,Loc (Ab x k))
 (h0:Lv S0 w0 (A 0) w)
 (hseq:∀ (l:Nat) (R:Asr) (St:Nat -> World -> Prop) (W:World),Loc R ->
  (∀ k W1,k < N -> Lv S0 w0 (Star R (A k)) W1 -> YieldAt F (n - 1 - 1) P l (encs k) W1 fun e W' =>
   (e = .returned (.bool true) /\ Lv S0 w0 (Star R (A (k + 1))) W') \/ (e = .returned (.bool false) /\ St k W')) ->
  Lv S0 w0 (Star R (A 0)) W ->
  CallsIn F (n - 1) P gf (#[.func (.yield l) #[] #[]] ++ lb) W fun e W'=>(∃ v,e = .returned v) /\ (Lv S0 w0 (Star R (A N)) W' \/ ∃ k,k < N /\ St k W'))
 (hassign:∀ (l:Nat) (R:Asr) (k:Nat) (W:World) (K:Act -> World -> Prop),Loc R -> k < N -> Lv S0 w0 (Star R (A k)) W -> (∀ x W1,Lv S0 w0 (Star R (Ab x k)) W1 -> K (a₁ x k) W1) ->
  assign.wpIn (F.inRound l) (n - 1 - 1) P (Exit.then K (fun _ _ _=>False)) { tmps:=(ps.zip (encs k)).foldl (fun t (p,v)=>t.setIfInBounds p v) a.tmps,defers:=[] } W)
 (hbody:∀ (l:Nat) (R:Asr) (k x:Nat) (W:World),Loc R -> k < N -> Lv S0 w0 (Star R (Ab x k)) W ->
  body.wpIn (F.inRound l) (n - 1 - 1) P (fun e _ W'=>(e = .normal /\ Lv S0 w0 (Star R (A (k + 1))) W') \/ ∃ c,Leaves e c /\ Lv S0 w0 (Star R (Ax c k)) W') (a₁ x k) W)
 (hdone:∀ (D:Nat) (W:World),Lv S0 w0 (Star (defA D) (A N)) W -> Q .normal { a with defers:={ target:=.collected D,args:=#[] } :: a.defers } W)
 (hstop:∀ (D:Nat) (c:Code) (k:Nat) (W:World),k < N -> Lv S0 w0 (Star (defA D) (Ax c k)) W -> c.wpIn F n P Q { a with defers:={ target:=.collected D,args:=#[] } :: a.defers } W) :
 (Code.rangeFunc g ps assign body).wpIn F n P Q a w:=by
 refine wpIn_rangeFunc ?_
 intro fn hfn
 rw [hro]
 obtain ⟨rec,hrec⟩:∃ rec:LoopState -> Option Code -> Loop,rec = fun st pe=>{ state:=st,pending:=pe,fn,tmps:=a.tmps,params:=ps,assign,body,defers:=w.heap.size }:=⟨_,rfl⟩
 obtain ⟨W1,hW1⟩:∃ W1,(w.alloc (.deferred (some []))).alloc (.loop (rec .ready none)) = W1:=⟨_,rfl⟩
 have hB:∀ st pe,Loc (Star (recA (w.heap.size + 1) (rec st pe)) (defA w.heap.size)):=fun _ _=>loc_star (loc_rec _ _) (loc_def _)
 have hS:Lv S0 w0 (Star (Star (recA (w.heap.size + 1) (rec .ready none)) (defA w.heap.size)) (A 0)) W1:=by
  have s1:=h0.new (B:=defA w.heap.size) (hA 0) ((Fr.refl _ _).alloc (.deferred (some []))) ⟨World.alloc_heap_new w _,.inr ⟨Nat.le_refl _,by simp⟩⟩
  have s2:=s1.new (B:=recA (w.heap.size + 1) (rec .ready none)) (loc_star (loc_def _) (hA 0)) ((Fr.refl _ _).alloc (.loop (rec .ready none)))
   ⟨by have:=World.alloc_heap_new (w.alloc (.deferred (some []))) (.loop (rec .ready none));rwa [World.size_alloc] at this,.inr ⟨by simp,by simp⟩⟩
  rw [hW1] at s2
  exact s2.assoc'
 refine ⟨w.heap.size + 1,[{ target:=.collected w.heap.size,args:=#[] }],W1,{ target:=.fn (.func gf) lb,args:=#[.func (.yield (w.heap.size + 1)) #[] #[]] },W1,gf,
  #[.func (.yield (w.heap.size + 1)) #[] #[]] ++ lb,W1,?_,?_,?_,?_,fun _=>h1,?_⟩
 ·rw [<- hW1,hrec];exact run_enterLoop_outer _ _ _ _ _
 ·simp only [resolve,hg]
  simp [go_sem]
 ·intro f' hf';simp [Target.leads] at hf';subst hf';exact hFg
 ·simp [invoke,go_sem,eg]
 ·refine (hseq (w.heap.size + 1) (Star (recA (w.heap.size + 1) (rec .ready none)) (defA w.heap.size))
   (fun k W=>∃ c,Lv S0 w0 (Star (Star (recA (w.heap.size + 1) (rec .done (some c))) (defA w.heap.size)) (Ax c k)) W) W1 (hB _ _) ?_ hS).mono ?_
  ·intro k W hk hl
   have hy:=run_yield (P:=P) (args:=encs k) hl.rec_at (by rw [hrec];exact hps k)
   rw [hrec] at hy
   refine ⟨fn,_,assign,body,hy,roundIn_of_wpIn hfn (hassign _ _ k W _ (hB _ _) hk hl ?_)⟩
   clear hy hl
   intro x W hl
   refine ⟨_,run_beginRound hl.rec_at (by rw [hrec]),?_⟩
   have e0:({ rec .ready none with state:=.busy }:Loop) = rec .busy none:=by rw [hrec]
   rw [e0]
   have hl2:=hl.rec_put (rec .busy none) (loc_def _) (hAb x k)
   refine wpIn_mono (hbody _ _ k x _ (hB .busy none) hk hl2) ?_
   have fin:∀ (jump:Option Code) (W3:World) (B:Asr),Loc B -> Lv S0 w0 (Star (Star (recA (w.heap.size + 1) (rec .busy none)) (defA w.heap.size)) B) W3 ->
    (Instr.endRound (w.heap.size + 1) jump).run P W3 = .ok (.bool jump.isNone) (W3.putObj (w.heap.size + 1) (.loop (rec (if jump.isNone then .ready else .done) jump))) /\
    Lv S0 w0 (Star (Star (recA (w.heap.size + 1) (rec (if jump.isNone then .ready else .done) jump)) (defA w.heap.size)) B) (W3.putObj (w.heap.size + 1) (.loop (rec (if jump.isNone then .ready else .done) jump))):=by
    intro jump W3 B hBl h3
    have:=run_endRound (P:=P) jump h3.rec_at
    refine ⟨?_,h3.rec_put _ (loc_def _) hBl⟩
    rw [this]
    rw [hrec]
   rintro e a3 W3 (⟨rfl,h3⟩ | ⟨c,hc,h3⟩)
   ·obtain ⟨hr,h4⟩:=fin none W3 _ (hA _) h3
    exact ⟨_,_,hr,.inl ⟨rfl,h4⟩⟩
   ·obtain ⟨hr,h4⟩:=fin (some c) W3 _ (hAx _ _) h3
    cases e with
    | ret=>obtain rfl:c = .ret:=hc;exact ⟨_,_,hr,.inr ⟨rfl,_,h4⟩⟩
    | exit id=>obtain rfl:c = .exit id:=hc;exact ⟨_,_,hr,.inr ⟨rfl,_,h4⟩⟩
    | goto t=>obtain rfl:c = .goto t:=hc;exact ⟨_,_,hr,.inr ⟨rfl,_,h4⟩⟩
    | normal=>exact hc.elim
    | panic ch=>exact hc.elim
    | outgrown=>exact hc.elim
  ·rintro e W2 ⟨⟨v,rfl⟩,h2 | ⟨k,hk,c,h2⟩⟩
   ·have hE:=run_endLoop (P:=P) h2.rec_at (by rw [hrec];simp)
    refine ⟨none,W2.putObj (w.heap.size + 1) (.loop (rec .exhausted none)),by rw [hE];simp only [hrec],?_⟩
    exact hdone _ _ (h2.rec_put (rec .exhausted none) (loc_def _) (hA _)).assoc.drop
   ·have hE:=run_endLoop (P:=P) h2.rec_at (by rw [hrec];simp)
    refine ⟨some c,W2.putObj (w.heap.size + 1) (.loop (rec .exhausted (some c))),by rw [hE];simp only [hrec],?_⟩
    exact hstop _ c k _ hk (h2.rec_put (rec .exhausted (some c)) (loc_def _) (hAx _ _)).assoc.drop
end
def isA (s name:ByteArray) (k:Nat):Bool:=decide (0 < k /\ 0 <= entI s k /\ entS s k = name)
def fndB (s name:ByteArray) (N:Nat):Option Nat:=(List.range N).find? (isA s name)
def upB (s:ByteArray):Int:=if 16 <= s.size then entI s 0 else 0
def isE (s:ByteArray) (k:Nat):Bool:=decide (0 < k /\ 0 <= entI s k)
def emptyB (s:ByteArray) (N:Nat):Bool:=(List.range N).all fun k=>!isE s k
def freeB (s:ByteArray) (N:Nat):Nat:=((List.range N).find? fun k=>decide (entI s k < 0)).getD N
def namesB (s:ByteArray):Nat -> List ByteArray
 | 0=>[]
 | k + 1=>namesB s k ++ (if isE s k then [entS s k] else [])
theorem find_range {p:Nat -> Bool} {N k:Nat} (hk:k < N) (h:p k = true) (hn:∀ j,j < k -> p j = false):(List.range N).find? p = some k:=by
 rw [List.find?_range_eq_some]
 exact ⟨h,List.mem_range.2 hk,fun j hj=>by rw [hn j hj];rfl⟩
theorem find_range_none {p:Nat -> Bool} {N:Nat} (hn:∀ j,j < N -> p j = false):(List.range N).find? p = none:=by
 rw [List.find?_eq_none]
 exact fun j hj=>by rw [hn j (List.mem_range.1 hj)];decide
section
variable {s name:ByteArray} {N k:Nat}
theorem fnd_at (hk:k < N) (h:isA s name k = true) (hn:∀ j,j < k -> isA s name j = false):fndB s name N = some k:=find_range hk h hn
theorem fnd_none (hn:∀ j,j < N -> isA s name j = false):fndB s name N = none:=find_range_none hn
theorem free_at (hk:k < N) (h:entI s k < 0) (hn:∀ j,j < k -> 0 <= entI s j):freeB s N = k:=by
 unfold freeB
 rw [find_range hk (by simpa using h) (fun j hj=>by simpa using hn j hj)]
 rfl
theorem free_none (hn:∀ j,j < N -> 0 <= entI s j):freeB s N = N:=by
 unfold freeB
 rw [find_range_none (fun j hj=>by simpa using hn j hj)]
 rfl
theorem empty_at (hk:k < N) (h:isE s k = true):emptyB s N = false:=by
 unfold emptyB
 rw [List.all_eq_false]
 exact ⟨k,List.mem_range.2 hk,by rw [h];decide⟩
theorem empty_none (hn:∀ j,j < N -> isE s j = false):emptyB s N = true:=by
 unfold emptyB
 rw [List.all_eq_true]
 exact fun j hj=>by rw [hn j (List.mem_range.1 hj)];rfl
variable {T:Tr} {d:Nat}
theorem dir_read (h:DirOk T d):(areadB (volT T) d 0 2368).data.toList = drcT (T d):=by
 have h1:areadE (volT T) d 0 2368 = 0:=by
  unfold areadE
  rw [h.find,if_neg (by decide),if_neg (by decide)]
 show areadS (volT T) d 0 2368 = _
 unfold areadS
 rw [h1,if_neg (by decide)]
 show ((volT T ((d:Int).toNat)).data.drop 0).take 2368 = _
 rw [show ((d:Int).toNat) = d from rfl,List.drop_zero,List.take_of_length_le (by rw [h.len];exact h.size),h.node]
theorem dir_size (h:DirOk T d):(areadB (volT T) d 0 2368).size = 16 * (1 + (T d).slots.length):=by
 rw [<- size_list,dir_read h]
 exact drc_len h.slots
section
variable {x:TN} (hs:s.data.toList = drcT x) (h:∀ o ∈ x.slots,SlotOk o)
include hs h
theorem isA_slot (k:Nat) (hk:k < x.slots.length):isA s name (k + 1) = nameIs name (x.slots.getD k none):=by
 have h1:x.slots[k]? = some (x.slots.getD k none):=by rw [List.getD_eq_getElem?_getD,List.getElem?_eq_getElem hk];rfl
 cases ho:x.slots.getD k none with
 | none =>
  rw [ho] at h1
  obtain ⟨a,b⟩:=ent_free hs h h1
  unfold isA nameIs
  rw [a]
  exact decide_eq_false (by omega)
 | some y =>
  obtain ⟨i,t⟩:=y
  rw [ho] at h1
  obtain ⟨a,b⟩:=ent_some hs h h1
  unfold isA nameIs
  rw [a,b]
  simp only [decide_eq_decide]
  constructor
  ·rintro ⟨_,_,e⟩;exact e
  ·intro e;exact ⟨by omega,by omega,e⟩
theorem isE_slot (k:Nat) (hk:k < x.slots.length):isE s (k + 1) = (x.slots.getD k none).isSome:=by
 have h1:x.slots[k]? = some (x.slots.getD k none):=by rw [List.getD_eq_getElem?_getD,List.getElem?_eq_getElem hk];rfl
 cases ho:x.slots.getD k none with
 | none =>
  rw [ho] at h1
  obtain ⟨a,b⟩:=ent_free hs h h1
  unfold isE
  rw [a]
  exact decide_eq_false (by omega)
 | some y =>
  obtain ⟨i,t⟩:=y
  rw [ho] at h1
  obtain ⟨a,b⟩:=ent_some hs h h1
  unfold isE
  rw [a]
  exact decide_eq_true (by omega)
theorem fnd_dir:fndB s name (1 + x.slots.length) = (entryT x name).map (· + 1):=by
 cases he:entryT x name with
 | none =>
  refine fnd_none fun j hj=>?_
  cases j with
  | zero=>exact decide_eq_false (by omega)
  | succ j =>
   rw [isA_slot hs h j (by omega)]
   have:=List.findIdx?_eq_none_iff.1 he _ (List.getElem_mem (by omega:j < x.slots.length))
   rw [List.getD_eq_getElem?_getD,List.getElem?_eq_getElem (by omega)]
   exact this
 | some k =>
  obtain ⟨hk,h1,h2⟩:=List.findIdx?_eq_some_iff_getElem.1 he
  show fndB s name (1 + x.slots.length) = some (k + 1)
  refine fnd_at (by omega) ?_ fun j hj=>?_
  ·rw [isA_slot hs h k hk,List.getD_eq_getElem?_getD,List.getElem?_eq_getElem hk]
   exact h1
  ·cases j with
   | zero=>exact decide_eq_false (by omega)
   | succ j =>
    rw [isA_slot hs h j (by omega),List.getD_eq_getElem?_getD,List.getElem?_eq_getElem (by omega)]
    exact Bool.eq_false_iff.2 (h2 j (by omega))
theorem empty_dir:emptyB s (1 + x.slots.length) = emptyT x:=by
 cases he:emptyT x with
 | true =>
  refine empty_none fun j hj=>?_
  cases j with
  | zero=>exact decide_eq_false (by omega)
  | succ j =>
   rw [isE_slot hs h j (by omega),List.getD_eq_getElem?_getD,List.getElem?_eq_getElem (by omega)]
   have:=List.all_eq_true.1 he _ (List.getElem_mem (by omega:j < x.slots.length))
   show (x.slots[j]).isSome = false
   cases hx:x.slots[j] with
   | none=>rfl
   | some y=>rw [hx] at this;cases this
 | false =>
  obtain ⟨o,ho,h2⟩:=List.all_eq_false.1 he
  obtain ⟨j,hj,rfl⟩:=List.getElem_of_mem ho
  refine empty_at (k:=j + 1) (by omega) ?_
  rw [isE_slot hs h j hj,List.getD_eq_getElem?_getD,List.getElem?_eq_getElem hj]
  show (x.slots[j]).isSome = true
  cases hx:x.slots[j] with
  | none=>rw [hx] at h2;exact absurd rfl h2
  | some y=>rfl
theorem free_dir (hu:x.up < 32):freeB s (1 + x.slots.length) = placeT x.slots + 1:=by
 have hlow:∀ j,j < placeT x.slots + 1 -> 0 <= entI s j:=fun j hj=>by
  cases j with
  | zero=>rw [(ent_first hs hu).1];omega
  | succ j =>
   obtain ⟨⟨i,t⟩,hy⟩:=place_ne (l:=x.slots) (j:=j) (by omega)
   rw [(ent_some hs h hy).1]
   omega
 rcases put_place (0,ByteArray.empty) x.slots with ⟨a,b,_⟩ | ⟨a,_⟩
 ·exact free_at (by omega) (by rw [(ent_free hs h b).1];omega) hlow
 ·rw [free_none (fun j hj=>hlow j (by omega))]
  omega
theorem names_dir:namesB s (1 + x.slots.length) = namesT x:=by
 have key:∀ k,k <= x.slots.length -> namesB s (k + 1) = (x.slots.take k).filterMap fun o=>o.map (·.2):=by
  intro k
  induction k with
  | zero =>
   intro _
   show [] ++ (if isE s 0 then _ else _) = _
   rw [show isE s 0 = false from decide_eq_false (by omega)]
   rfl
  | succ k ih =>
   intro hk
   show namesB s (k + 1) ++ _ = _
   rw [ih (by omega),isE_slot hs h k (by omega),List.take_add_one,List.filterMap_append,List.getElem?_eq_getElem (by omega),List.getD_eq_getElem?_getD,List.getElem?_eq_getElem (by omega)]
   congr 1
   show (if (x.slots[k]).isSome = true then _ else _) = _
   cases hx:x.slots[k] with
   | none=>rfl
   | some y =>
    obtain ⟨i,t⟩:=y
    have:=(ent_some hs h (k:=k) (i:=i) (t:=t) (by rw [List.getElem?_eq_getElem (by omega),hx])).2
    rw [if_pos (by rfl),this]
    rfl
 rw [show 1 + x.slots.length = x.slots.length + 1 by omega,key _ (Nat.le_refl _),List.take_of_length_le (Nat.le_refl _)]
 rfl
end
end
section
open Go.RowKit Go.Shelf
attribute [local go_sem] Oper.semAt_some
def volA (c:Nat) (p:Int) (v b d m:Nat) (A A0:Nat -> Node):Asr:=fun w S=>∃ L H X,Star (lgA b d L.stg L.dead) (Star (dskA kD d L.D) (blkA v tVol [.pointer (some ⟨b,0,none⟩)])) w S /\ VolL m H X A L /\ IsVol m H A0 /\ L.stg.length <= c /\ L.D.power = p
theorem loc_volA (c:Nat) (p:Int) (v b d m:Nat) (A A0:Nat -> Node):Loc (volA c p v b d m A A0):=by
 rintro w w' S T ⟨L,H,X,h1,h2⟩ hf hT
 exact ⟨L,H,X,loc_star (loc_lg _ _ _ _) (loc_star (loc_dsk _ _ _) (loc_blk _ _ _)) _ _ _ _ h1 hf hT,h2⟩
section
variable {S0:Nat -> Prop} {w0 w:World} {t v b d m c bt bn:Nat} {p n:Int} {A A0:Nat -> Node} {T:Tr} {B R:Asr}
theorem VT.asr (h:VT c p S0 w0 v b d m A A0 B w):Lv S0 w0 (Star (volA c p v b d m A A0) B) w:=by
 obtain ⟨L,H,X,h1,h2⟩:=h
 refine Lv.map h1 fun U hu=>?_
 have h3:=star_assoc' (star_right hu fun _ h=>star_assoc' h)
 exact star_left h3 fun _ h=>⟨L,H,X,h,h2⟩
theorem VT.of (h:Lv S0 w0 (Star (volA c p v b d m A A0) B) w):VT c p S0 w0 v b d m A A0 B w:=by
 obtain ⟨U,⟨S,U1,⟨L,H,X,h1,h2⟩,hB,h3⟩,h4⟩:=h
 refine ⟨L,H,X,⟨U,?_,h4⟩,h2⟩
 exact star_right (star_assoc ⟨S,U1,h1,hB,h3⟩) fun _ h=>star_assoc h
theorem VT.asr2 (h:VT c p S0 w0 v b d m A A0 (Star R B) w):Lv S0 w0 (Star R (Star (volA c p v b d m A A0) B)) w:=h.asr.map fun _ h=>star_flip h
theorem VT.of2 (h:Lv S0 w0 (Star R (Star (volA c p v b d m A A0) B)) w):VT c p S0 w0 v b d m A A0 (Star R B) w:=VT.of (h.map fun _ h=>star_flip h)
abbrev EB (t b v bt bn:Nat) (T:Tr) (n:Int) (B:Asr):Asr:=Star (trA t b v T) (Star (blkA bt tPTree [.pointer (some ⟨t,0,none⟩)]) (Star (blkA bn tInt [.int .i64 n]) B))
abbrev EA (c:Nat) (p:Int) (v b d m:Nat) (A A0:Nat -> Node) (t bt bn:Nat) (T:Tr) (n:Int) (B:Asr):Asr:=Star (volA c p v b d m A A0) (EB t b v bt bn T n B)
theorem loc_EB (hB:Loc B):Loc (EB t b v bt bn T n B):=loc_star (loc_blk _ _ _) (loc_star (loc_blk _ _ _) (loc_star (loc_blk _ _ _) hB))
theorem loc_EA (hB:Loc B):Loc (EA c p v b d m A A0 t bt bn T n B):=loc_star (loc_volA _ _ _ _ _ _ _ _) (loc_EB hB)
theorem EA.cells (h:Lv S0 w0 (Star R (EA c p v b d m A A0 t bt bn T n B)) w):Blk w t tTree (treeL b v T false) /\ Blk w bt tPTree [.pointer (some ⟨t,0,none⟩)] /\ Blk w bn tInt [.int .i64 n]:=by
 obtain ⟨_,⟨_,_,_,⟨_,_,_,⟨_,_,h1,⟨_,_,h2,⟨_,_,h3,_⟩,_⟩,_⟩,_⟩,_⟩,_⟩:=h
 exact ⟨h1.1,h2.1,h3.1⟩
theorem tentries_calls (t:Nat) (n:Int) (w:World) :
 Calls Tryz.prog 60 #[.pointer (some ⟨t,0,none⟩),.int .i64 n] w fun e w'=>e = .returned (.func (.func 115) #[] #[.pointer (some ⟨w.heap.size,0,none⟩),.pointer (some ⟨w.heap.size + 1,0,none⟩)]) /\
  w' = (w.alloc (.cells #[.pointer (some ⟨t,0,none⟩)] tPTree)).alloc (.cells #[.int .i64 n] tInt):=by
 go_enter Tryz.func60,Tryz.ntmps60
 go_wp2_with fail
 go_ret
 exact ⟨rfl,rfl⟩
theorem tents1_calls {N:Nat} {s:ByteArray} (hs:areadB A n 0 2368 = s) (hN:s.size / 16 = N) (h2368:s.size <= 2368) (Bs:Nat -> Asr) (hB:∀ k,Loc (Bs k))
 (l:Nat) (R:Asr) (St:Nat -> World -> Prop) (W:World) (hR:Loc R)
 (hY:∀ k W1,k < N -> Lv S0 w0 (Star R (EA c p v b d m A A0 t bt bn T n (Bs k))) W1 -> YieldAt Fence.wide 1 Tryz.prog l #[.int .i64 (16 * k:Nat),.agg #[.int .i64 (entI s k),.string (entS s k)]] W1 fun e W' =>
  (e = .returned (.bool true) /\ Lv S0 w0 (Star R (EA c p v b d m A A0 t bt bn T n (Bs (k + 1)))) W') \/ (e = .returned (.bool false) /\ St k W'))
 (hW:Lv S0 w0 (Star R (EA c p v b d m A A0 t bt bn T n (Bs 0))) W) :
 CallsIn Fence.wide 2 Tryz.prog 115 (#[.func (.yield l) #[] #[]] ++ #[.pointer (some ⟨bt,0,none⟩),.pointer (some ⟨bn,0,none⟩)]) W fun e W'=>(∃ v,e = .returned v) /\
  (Lv S0 w0 (Star R (EA c p v b d m A A0 t bt bn T n (Bs N))) W' \/ ∃ k,k < N /\ St k W'):=by
 refine callsIn_of_wp Tryz.func115 rfl trivial ?_ rfl
 simp only [Tryz.ntmps115,List.size_toArray,List.length_cons,List.length_nil,Nat.reduceAdd,Nat.reduceSub,Array.replicate_succ,Array.replicate_zero,List.push_toArray,List.append_toArray,List.nil_append,List.cons_append]
 have V0:=(VT.of2 hW).keep (loc_star hR (loc_EB (hB 0))) (Fr.refl _ _).drew
 have HV0:=hid V0
 haveI hin:Inhabited (Wd (VT c p S0 w0 v b d m A A0 (Star R (EB t b v bt bn T n (Bs 0))))):=⟨⟨W.drew,V0⟩⟩
 have k1:∀ q:Wd (VT c p S0 w0 v b d m A A0 (Star R (EB t b v bt bn T n (Bs 0)))),q.w.cell? ⟨t,1,none⟩ = some (.pointer (some ⟨v,0,none⟩)):=fun q=>(EA.cells q.h.asr2).1.cell (j:=1) rfl
 have k2:∀ q:Wd (VT c p S0 w0 v b d m A A0 (Star R (EB t b v bt bn T n (Bs 0)))),q.w.cell? ⟨bt,0,none⟩ = some (.pointer (some ⟨t,0,none⟩)):=fun q=>(EA.cells q.h.asr2).2.1.cell (j:=0) rfl
 have k3:∀ q:Wd (VT c p S0 w0 v b d m A A0 (Star R (EB t b v bt bn T n (Bs 0)))),q.w.cell? ⟨bn,0,none⟩ = some (.int .i64 n):=fun q=>(EA.cells q.h.asr2).2.2.cell (j:=0) rfl
 have HR1:Hid (∀ q:Wd (VT c p S0 w0 v b d m A A0 (Star R (EB t b v bt bn T n (Bs 0)))),Calls Tryz.prog 54 #[.pointer (some ⟨v,0,none⟩),.int .i64 n,.int .i64 0,.int .i64 2368] q.w fun e w'=>e = .returned (.tuple #[.string s,.int .i64 (areadE A n 0 2368)]) /\ VT c p S0 w0 v b d m A A0 (Star R (EB t b v bt bn T n (Bs 0))) w'):=hid fun q=>by
  have h:=t_read q.h (loc_star hR (loc_EB (hB 0))) n 0 2368
  rw [hs] at h
  exact h
 have HY:=hid hY
 have HZ:Hid (s.size / 16 = N /\ s.size <= 2368):=hid ⟨hN,h2368⟩
 have HB:=hid hB
 have HRL:=hid hR
 have HOF:Hid (∀ k,k < N -> ∀ W:World,Calls Tryz.prog 116 #[.string (s.extract (16 * k) (16 * k + 2))] W fun e w'=>e = .returned (.int .u64 (twoAt s (16 * k):Nat)) /\ Fr Nob W w'):=hid fun k hk W=>by
  have h:=wof_calls (s.extract (16 * k) (16 * k + 2)) W (by rw [ByteArray.size_extract];omega)
  rw [le_at (by omega)] at h
  exact h
 have HTR:Hid (∀ k,k < N -> ∀ W:World,Calls Tryz.prog 117 #[.string (s.extract (16 * k + 2) (16 * k + 16)),.string ⟨#[0]⟩] W fun e w'=>e = .returned (.string (entS s k)) /\ Fr Nob W w'):=hid fun k hk W=>by
  refine (Tryz.strings_TrimRight_one (s.extract (16 * k + 2) (16 * k + 16)) 0 (by decide) W (by rw [ByteArray.size_extract];omega)).mono ?_
  rintro e w' ⟨rfl,rfl⟩
  exact ⟨rfl,Fr.refl _ _⟩
 clear hY hW hB hR hs V0 hN h2368
 rw [wpIn_wide]
 go_wp2_with fail
 refine wp_region_wd (VT c p S0 w0 v b d m A A0 (Star R (EB t b v bt bn T n (Bs 0)))) HV0.out (by kernel_rfl) (by kernel_rfl) ?_
 repeat (quiet_step (first | (go_at_call 54;exact Calls.wd (HR1.out _))))
 refine wpQuiet_nil ?_
 rintro _ ⟨⟨w1,V1⟩,rfl⟩
 have L1:=V1.asr2
 have HL1:=hid L1
 clear V1 L1 k1 k2 k3
 go_wp2_with fail
 rw [<- wpIn_wide (n:=2)]
 gi_loopw [6] (fun s6 wr=>∃ k i:Nat,k <= N /\ i = 16 * k /\ s6 = .int .i64 i /\ Hid (Lv S0 w0 (Star R (EA c p v b d m A A0 t bt bn T n (Bs k))) wr)) (fun s6 _=>16 * N - (intOf s6).toNat)
 case atStart=>exact ⟨0,0,by omega,rfl,rfl,HL1⟩
 case round =>
  obtain ⟨k,i,hk,hi,rfl,HLr⟩:=hrel
  clear HL1
  have HI:=hid hi
  have hw16:IntKind.i64.wrap ((i:Int) + 16) = ((i + 16:Nat):Int):=by rw [IntKind.wrap_i64] <;> have:=HZ.out <;> omega
  by_cases hlt:k < N
  ·have hle2:i + 16 <= s.size:=by have:=HZ.out;omega
   have hle:((i + 16:Nat):Int) <= (s.size:Int):=by omega
   have hle3:i + 2 <= s.size:=by omega
   have hle4:((i + 2:Nat):Int) <= (s.size:Int):=by omega
   have hz1:(0:Int) <= (i:Int) + 2:=by omega
   have hz2:(i:Int) + 2 <= (s.size:Int):=by omega
   have hz3:(i:Int) <= (i:Int) + 2:=by omega
   have hz4:(0:Int) <= (i:Int) + 16:=by omega
   have hz5:(i:Int) + 16 <= (s.size:Int):=by omega
   have hz6:(i:Int) + 2 <= (i:Int) + 16:=by omega
   have hw2:IntKind.i64.wrap ((i:Int) + 2) = ((i + 2:Nat):Int):=by rw [IntKind.wrap_i64] <;> have:=HZ.out <;> omega
   have ht:=twoAt_lt s (16 * k)
   have hcv:IntKind.i64.wrap ((twoAt s (16 * k):Nat):Int) = ((twoAt s (16 * k):Nat):Int):=by rw [IntKind.wrap_i64] <;> omega
   have hwI:IntKind.i64.wrap (((twoAt s (16 * k):Nat):Int) - 1) = entI s k:=by unfold entI;rw [IntKind.wrap_i64] <;> omega
   obtain ⟨tw,htw⟩:∃ tw:Nat,tw = twoAt s (16 * k):=⟨_,rfl⟩
   have HO:=HOF.out k hlt
   have HT:=HTR.out k hlt
   obtain ⟨eI,heI⟩:∃ eI,eI = entI s k:=⟨_,rfl⟩
   obtain ⟨eS,heS⟩:∃ eS,eS = entS s k:=⟨_,rfl⟩
   have HYk:=HY.out k
   rw [<- htw] at hcv hwI HO
   rw [<- heI] at hwI HYk
   rw [<- heS] at HT HYk
   rw [<- hi] at HO HT HYk
   have HO:=hid HO
   have HT:=hid HT
   have HYk:=hid HYk
   clear htw heI heS ht hi
   gi_wp2
   rw [wpIn_wide]
   go_region_held3 (fun _=>True)
    (first | go_keep | trivial)
    (first
     | (go_at_call 116;refine (HO.out _).mono ?_;rintro e w3 ⟨rfl,hf3⟩;try (have hb3:Blk w3 wr.heap.size tEnt [.int .i64 0,.string ⟨#[]⟩]:=(Blk.new wr.drew tEnt [.int .i64 0,.string ⟨#[]⟩]).fr hf3 (fun h=>h);have z0:=hb3.cell (j:=0) rfl;have z1:=hb3.cell (j:=1) rfl;have y0:=hb3.free 0;have y1:=hb3.free 1))
     | (go_at_call 117;refine (HT.out _).mono ?_;rintro e w4 ⟨rfl,hf4⟩;try (first
      | (have hb4:Blk w4 wr.heap.size tEnt [.int .i64 0,.string ⟨#[]⟩]:=hb3.fr hf4 (fun h=>h);have z0:=hb4.cell (j:=0) rfl;have z1:=hb4.cell (j:=1) rfl;have y0:=hb4.free 0;have y1:=hb4.free 1)
      | (have hb4:=(Blk.new _ tEnt [.int .i64 0,.string ⟨#[]⟩]).fr hf4 (fun h=>h);have z0:=hb4.cell (j:=0) rfl;have z1:=hb4.cell (j:=1) rfl;have y0:=hb4.free 0;have y1:=hb4.free 1))))
   all_goals
    have HF4:Fr Nob wr w4:=by
     first
      | exact (((Fr.refl Nob wr).drew).trans hf3).trans hf4
      | exact (((Fr.refl Nob wr).drew).trans hf3).trans (((Fr.refl Nob w3).alloc _).trans hf4)
      | exact ((((Fr.refl Nob wr).alloc _).drew).trans hf3).trans hf4
    first
     | (have hb5:=Blk.new w4 tEnt [.int .i64 eI,.string eS]
        have hF5:Fr Nob wr (w4.alloc (.cells #[.int .i64 eI,.string eS] tEnt)):=HF4.alloc _
        obtain ⟨w5,hw5⟩:∃ w5,w5 = w4.alloc (.cells #[.int .i64 eI,.string eS] tEnt):=⟨_,rfl⟩
        rw [<- hw5] at hF5 ⊢
        have hb5:Blk w5 w4.heap.size tEnt [.int .i64 eI,.string eS]:=by rw [hw5];exact hb5
        clear hw5)
     | (have hb5:Blk _ w3.heap.size tEnt [.int .i64 eI,.string eS]:=(hb4.set 0 (.int .i64 eI)).set 1 (.string eS)
        have hF5:=(HF4.set (b:=w3.heap.size) (.inr (by have:=hf3.size;simpa using this)) 0 (.int .i64 eI)).set (b:=w3.heap.size) (.inr (by have:=hf3.size;simpa using this)) 1 (.string eS)
        obtain ⟨w5,hw5⟩:∃ w5,w5 = (w4.setCell ⟨w3.heap.size,0,none⟩ (.int .i64 eI)).setCell ⟨w3.heap.size,1,none⟩ (.string eS):=⟨_,rfl⟩
        rw [<- hw5] at hb5 hF5 ⊢
        clear hw5)
     | (have hb5:Blk _ wr.heap.size tEnt [.int .i64 eI,.string eS]:=(hb4.set 0 (.int .i64 eI)).set 1 (.string eS)
        have hF5:=(HF4.set (b:=wr.heap.size) (.inr (Nat.le_refl _)) 0 (.int .i64 eI)).set (b:=wr.heap.size) (.inr (Nat.le_refl _)) 1 (.string eS)
        obtain ⟨w5,hw5⟩:∃ w5,w5 = (w4.setCell ⟨wr.heap.size,0,none⟩ (.int .i64 eI)).setCell ⟨wr.heap.size,1,none⟩ (.string eS):=⟨_,rfl⟩
        rw [<- hw5] at hb5 hF5 ⊢
        clear hw5)
    have L5:=HLr.out.keep (loc_star HRL.out (loc_EA (HB.out k))) hF5
    have q0:=hb5.cell (j:=0) rfl
    have q1:=hb5.cell (j:=1) rfl
    obtain ⟨fn,tmps,assign,body,hy,hr⟩:=HYk.out w5 hlt L5
    have HRD:=hid hr
    clear hF5 hb5 L5 hr hf3 hf4 HF4
    try clear hb3
    try clear hb4 z0 z1 y0 y1
    try clear z0 z1 y0 y1
    gi_wp2
    refine HRD.out.mono ?_
    rintro e W3 (⟨rfl,hJ3⟩ | ⟨rfl,hJx3⟩)
    ·have HJ:=hid hJ3
     clear hJ3 q0 q1
     gi_wp2
     go_roundw
     case rel=>exact ⟨k + 1,i + 16,hlt,by have:=HI.out;omega,rfl,HJ⟩
     case measure=>simp [intOf];have:=HI.out;omega
    ·have HJ:=hid hJx3
     clear hJx3 q0 q1
     gi_wp2
     refine bodyPost_ret (results_none rfl _ _ _) rfl ?_
     exact ⟨⟨_,rfl⟩,.inr ⟨k,hlt,HJ.out⟩⟩
  ·obtain rfl:k = N:=by omega
   have hnle:¬ ((i + 16:Nat):Int) <= (s.size:Int):=by have:=HZ.out;omega
   clear hi
   gi_wp2
   go_end0
   exact ⟨⟨_,rfl⟩,.inl HLr.out⟩
end
end
section
open Go.RowKit Go.Shelf
attribute [local go_sem] Oper.semAt_some
def Wth (p:Prop) (A:Asr):Asr:=fun w S=>p /\ A w S
theorem loc_wth (p:Prop) {A:Asr} (h:Loc A):Loc (Wth p A):=fun w w' S T ⟨h1,h2⟩ hf hS=>⟨h1,h w w' S T h2 hf hS⟩
section
variable {S0:Nat -> Prop} {w0 w w':World} {t v b d m c bt bn:Nat} {p n:Int} {A A0:Nat -> Node} {T:Tr} {B R C C':Asr}
theorem areadB_size (A:Nat -> Node) (n:Int):(areadB A n 0 2368).size <= 2368:=by
 rw [<- size_list]
 show (areadS A n 0 2368).length <= 2368
 unfold areadS
 split
 ·exact Nat.zero_le _
 ·rw [List.length_take]
  exact Nat.min_le_left _ _
theorem star_4 {A1 A2 A3 A4:Asr} {U:Nat -> Prop} (h:Star A1 (Star A2 (Star A3 (Star A4 B))) w U):Star A4 (Star A2 (Star A1 (Star A3 B))) w U :=
 star_right (star_flip (star_right (star_right h fun _ h=>star_right h fun _ h=>star_flip h) fun _ h=>star_flip h)) fun _ h=>star_flip h
theorem star_f5 {A1 A2 A3 A4 A5:Asr} {U:Nat -> Prop} (h:Star A1 (Star A2 (Star A3 (Star A4 (Star A5 (Star C B))))) w U):Star C (Star A1 (Star A2 (Star A3 (Star A4 (Star A5 B))))) w U :=
 star_flip (star_right h fun _ h=>star_flip (star_right h fun _ h=>star_flip (star_right h fun _ h=>star_flip (star_right h fun _ h=>star_flip h))))
theorem star_b5 {A1 A2 A3 A4 A5:Asr} {U:Nat -> Prop} (h:Star C (Star A1 (Star A2 (Star A3 (Star A4 (Star A5 B))))) w U):Star A1 (Star A2 (Star A3 (Star A4 (Star A5 (Star C B))))) w U :=
 star_right (star_flip h) fun _ h=>star_right (star_flip h) fun _ h=>star_right (star_flip h) fun _ h=>star_right (star_flip h) fun _ h=>star_flip h
theorem EA.turn (h:Lv S0 w0 (Star R (EA c p v b d m A A0 t bt bn T n (Star C B))) w) (hR:Loc R) (hB:Loc B) (ht:Turn w w' C C'):Lv S0 w0 (Star R (EA c p v b d m A A0 t bt bn T n (Star C' B))) w' :=
 ((h.map fun _ h=>star_f5 h).turn (loc_star hR (loc_EA hB)) ht).map fun _ h=>star_b5 h
theorem EA.blk {r e:Nat} {cs:List Value} (h:Lv S0 w0 (Star R (EA c p v b d m A A0 t bt bn T n (Star (blkA r e cs) B))) w):Blk w r e cs:=by
 obtain ⟨_,h1⟩:=(h.map fun _ h=>star_f5 h).first
 exact h1.1
theorem EA.rest (h:Lv S0 w0 (Star R (EA c p v b d m A A0 t bt bn T n B)) w):∃ S,B w S:=by
 obtain ⟨_,⟨_,_,_,⟨_,_,_,⟨_,_,_,⟨_,_,_,⟨_,S,_,h,_⟩,_⟩,_⟩,_⟩,_⟩,_⟩:=h
 exact ⟨S,h⟩
theorem EA.map {B':Asr} (h:Lv S0 w0 (Star R (EA c p v b d m A A0 t bt bn T n B)) w) (hm:∀ S,B w S -> B' w S):Lv S0 w0 (Star R (EA c p v b d m A A0 t bt bn T n B')) w :=
 h.map fun _ h=>star_right h fun _ h=>star_right h fun _ h=>star_right h fun _ h=>star_right h fun _ h=>star_right h fun _ h=>hm _ h
theorem EA.box {r e:Nat} {cs:List Value} {G:Asr} (h:Lv S0 w0 (Star R (Star (blkA r e cs) G)) w):Blk w r e cs:=by
 obtain ⟨_,⟨_,_,_,⟨_,_,h1,_⟩,_⟩,_⟩:=h
 exact h1.1
theorem EA.less {G:Asr} (h:Lv S0 w0 (Star R (Star C G)) w):Lv S0 w0 (Star R G) w:=h.map fun _ h=>star_less h
theorem EA.fin {D:Nat} (h:Lv S0 w0 (Star (defA D) (EA c p v b d m A A0 t bt bn T n (Star C B))) w) (hC:Loc C) (hB:Loc B):VT c p S0 w0 v b d m A A0 (Star (trA t b v T) B) (w.putObj D (.deferred none)) :=
 VT.of ((h.shut (loc_EA (loc_star hC hB))).map fun _ h=>star_right h fun _ h=>star_less (star_less (star_less h)))
theorem EA.unpu {q:Prop} (h:Lv S0 w0 (Star R (EA c p v b d m A A0 t bt bn T n (Star C (Wth q B)))) w):Lv S0 w0 (Star R (EA c p v b d m A A0 t bt bn T n (Star C B))) w :=
 EA.map h fun _ h=>star_right h fun _ h=>h.2
theorem EA.fin2 {D r e:Nat} {cs:List Value} (h:Lv S0 w0 (Star (defA D) (EA c p v b d m A A0 t bt bn T n (Star (blkA r e cs) B))) w) (hB:Loc B) :
 VT c p S0 w0 v b d m A A0 (Star (trA t b v T) B) (w.putObj D (.deferred none)) /\ Blk (w.putObj D (.deferred none)) r e cs:=by
 refine ⟨EA.fin h (loc_blk _ _ _) hB,?_⟩
 have h2:=h.shut (loc_EA (loc_star (loc_blk _ _ _) hB))
 exact EA.blk (R:=Emp) (h2.map fun U h=>⟨Nob,U,trivial,h,fun _ h=>h.elim,fun _ h=>h.elim,fun _ h=>h⟩)
theorem EA.start {e:Nat} {cs:List Value} (h:VT c p S0 w0 v b d m A A0 (Star (trA t b v T) B) w) (hB:Loc B) :
 Lv S0 w0 (EA c p v b d m A A0 t (w.heap.size + 1) (w.heap.size + 1 + 1) T n (Star (blkA w.heap.size e cs) B)) (((w.alloc (.cells cs.toArray e)).alloc (.cells #[.pointer (some ⟨t,0,none⟩)] tPTree)).alloc (.cells #[.int .i64 n] tInt)):=by
 have l1:Loc (Star (trA t b v T) B):=loc_star (loc_blk _ _ _) hB
 have b1:=h.box l1 e cs
 have b2:=b1.box (loc_star (loc_blk _ _ _) l1) tPTree [.pointer (some ⟨t,0,none⟩)]
 have b3:=b2.box (loc_star (loc_blk _ _ _) (loc_star (loc_blk _ _ _) l1)) tInt [.int .i64 n]
 simp only [World.size_alloc] at b2 b3
 exact b3.asr.map fun _ h=>star_right h fun _ h=>star_4 h
theorem tparent_calls {s:ByteArray} (h:VT c p S0 w0 v b d m A A0 (Star (trA t b v T) B) w) (hB:Loc B) (hs:areadB A n 0 2368 = s) :
 Calls Tryz.prog 87 #[.pointer (some ⟨t,0,none⟩),.int .i64 n] w fun e w'=>e = .returned (.int .i64 (upB s)) /\ VT c p S0 w0 v b d m A A0 (Star (trA t b v T) B) w':=by
 refine (callsIn_wide (n:=3)).1 ?_
 have h2368:s.size <= 2368:=by rw [<- hs];exact areadB_size A n
 refine callsIn_of_wp_marks Tryz.func87 rfl trivial ?_ rfl
 simp only [Tryz.ntmps87,List.size_toArray,List.length_cons,List.length_nil,Nat.reduceAdd,Nat.reduceSub,Array.replicate_succ,Array.replicate_zero,List.push_toArray,List.append_toArray,List.nil_append,List.cons_append]
 have HS:=EA.start (e:=tInt) (cs:=[.int .i64 0]) (n:=n) h hB
 have HS:=hid HS
 have HB:=hid hB
 have HRS:=hid hs
 have HZ:=hid h2368
 clear h hB hs h2368
 rw [wpIn_wide]
 go_wp2_with fail
 refine (tentries_calls _ _ _).mono ?_
 rintro e w1 ⟨rfl,rfl⟩
 go_wp2_with fail
 generalize hWW:(((w.alloc (.cells #[.int .i64 0] tInt)).alloc (.cells #[.pointer (some ⟨t,0,none⟩)] tPTree)).alloc (.cells #[.int .i64 n] tInt)) = W0
 obtain ⟨r,hr⟩:∃ r,r = w.heap.size:=⟨_,rfl⟩
 have HW0:Hid (Lv S0 w0 (EA c p v b d m A A0 t (r + 1) (r + 1 + 1) T n (Star (blkA r tInt [.int .i64 0]) (Wth (0 = 0) B))) W0):=by
  rw [hr,<- hWW]
  exact hid (HS.out.map fun _ h=>star_right h fun _ h=>star_right h fun _ h=>star_right h fun _ h=>star_right h fun _ h=>star_right h fun _ h=>⟨rfl,h⟩)
 rw [<- hr]
 clear HS hWW hr
 rw [<- wpIn_wide (n:=3)]
 refine wpIn_range_lvx (S0:=S0) (w0:=w0) (F:=Fence.wide) (n:=3) rfl (by omega) (gf:=115) (lb:=#[.pointer (some ⟨r + 1,0,none⟩),.pointer (some ⟨r + 1 + 1,0,none⟩)]) rfl trivial (enters_of Tryz.func115 (by kernel_rfl) rfl)
  (fun k=>EA c p v b d m A A0 t (r + 1) (r + 1 + 1) T n (Star (blkA r tInt [.int .i64 0]) (Wth (k = 0) B)))
  (fun x k=>Wth (x = .ret /\ k = 0) (EA c p v b d m A A0 t (r + 1) (r + 1 + 1) T n (Star (blkA r tInt [.int .i64 (entI s 0)]) B)))
  (fun _=>loc_EA (loc_star (loc_blk _ _ _) (loc_wth _ HB.out))) (fun _ _=>loc_wth _ (loc_EA (loc_star (loc_blk _ _ _) HB.out))) (s.size / 16)
  (fun k=>#[.int .i64 (16 * k:Nat),.agg #[.int .i64 (entI s k),.string (entS s k)]]) (fun _=>rfl)
  (fun x k=>{ tmps:=#[.pointer (some ⟨t,0,none⟩),.int .i64 n,undef,undef,.pointer (some ⟨r,0,none⟩),undef,.pointer (some ⟨x,0,none⟩),.pointer (some ⟨t,0,none⟩),.int .i64 n,.func (.func 115) #[] #[.pointer (some ⟨r + 1,0,none⟩),.pointer (some ⟨r + 1 + 1,0,none⟩)],.int .i64 (16 * k:Nat),.agg #[.int .i64 (entI s k),.string (entS s k)],undef,undef],defers:=[] })
  (fun x k=>Star (blkA x tEnt [.int .i64 (entI s k),.string (entS s k)]) (EA c p v b d m A A0 t (r + 1) (r + 1 + 1) T n (Star (blkA r tInt [.int .i64 0]) (Wth (k = 0) B))))
  (fun _ _=>loc_star (loc_blk _ _ _) (loc_EA (loc_star (loc_blk _ _ _) (loc_wth _ HB.out)))) HW0.out ?seq ?assign ?body ?done ?stop
 case seq =>
  intro l R St W hR hY hW
  have h9:=tents1_calls (S0:=S0) (w0:=w0) (c:=c) (p:=p) (v:=v) (b:=b) (d:=d) (m:=m) (A0:=A0) (t:=t) (T:=T) (bt:=r + 1) (bn:=r + 1 + 1) (N:=s.size / 16) HRS.out rfl HZ.out (fun k=>Star (blkA r tInt [.int .i64 0]) (Wth (k = 0) B)) (fun _=>loc_star (loc_blk _ _ _) (loc_wth _ HB.out)) l R St W hR
  exact h9 hY hW
 case assign =>
  intro l R k W K hR hk hl hK
  have HKK:=hid hK
  have HLL:=hid hl
  have HRR:=hid hR
  clear hK hl hk hR
  gi_wp2
  have hL:=Lv.box HLL.out (loc_star HRR.out (loc_EA (loc_star (loc_blk _ _ _) (loc_wth _ HB.out)))) tEnt [.int .i64 (entI s k),.string (entS s k)]
  obtain ⟨x,hx⟩:∃ x,x = W.heap.size:=⟨_,rfl⟩
  rw [<- hx] at hL ⊢
  exact HKK.out x _ (hL.map fun _ h=>star_flip h)
 case body =>
  intro l R k x W hR hk hl
  have hx:=EA.box hl
  have hl2:=EA.less hl
  have hr:=EA.blk hl2
  have hk0:k = 0:=by
   obtain ⟨_,hS⟩:=EA.rest hl2
   obtain ⟨_,_,_,h1,_⟩:=hS
   exact h1.1
  subst hk0
  have q0:=hx.cell (j:=0) rfl
  have r0:=hr.cell (j:=0) rfl
  have f0:=hr.free 0
  have HE:=hid (EA.unpu (EA.turn hl2 hR (loc_wth _ HB.out) (turn_blk 0 (.int .i64 (entI s 0)))))
  clear hx hl hl2 hr
  gi_wp2
  exact ⟨.ret,rfl,HE.out.map fun _ h=>star_right h fun _ h=>⟨rfl,h⟩⟩
 case stop =>
  intro D c' k W hk hl
  obtain ⟨_,hp⟩:=hl.second
  obtain ⟨⟨rfl,rfl⟩,_⟩:=hp
  have HE:=hid (hl.map fun _ h=>star_right h fun _ h=>h.2)
  have HK:=hid hk
  clear hl hk
  gi_wp2
  obtain ⟨hV,hb⟩:=EA.fin2 HE.out HB.out
  refine ⟨by simp,.inl ⟨_,_,rfl,run_takeDeferred HE.out.def_at,?_⟩⟩
  have hcl:=hb.cell (j:=0) rfl
  refine ⟨.int .i64 (entI s 0),?_,?_,hV⟩
  ·simp [results,Tryz.f87,go_sem,hcl]
  ·unfold upB
   rw [if_pos (by have:=HK.out;omega)]
 case done =>
  intro D W hl
  have hr:=EA.blk hl
  have hk0:s.size / 16 = 0:=by
   obtain ⟨_,hS⟩:=EA.rest hl
   obtain ⟨_,_,_,h1,_⟩:=hS
   exact h1.1
  have r0:=hr.cell (j:=0) rfl
  have f0:=hr.free 0
  have HE:=hid (EA.unpu (EA.turn hl (loc_def D) (loc_wth _ HB.out) (turn_blk 0 (.int .i64 0))))
  have HK:=hid hk0
  clear hl hr hk0
  go_wp2_with fail
  obtain ⟨hV,hb⟩:=EA.fin2 HE.out HB.out
  refine ⟨by simp,.inl ⟨_,_,rfl,run_takeDeferred HE.out.def_at,?_⟩⟩
  have hcl:=hb.cell (j:=0) rfl
  refine ⟨.int .i64 0,?_,?_,hV⟩
  ·simp [results,Tryz.f87,go_sem,hcl]
  ·unfold upB
   rw [if_neg (by have:=HK.out;omega)]
end
end
section
open Go.RowKit Go.Shelf
attribute [local go_sem] Oper.semAt_some
section
def NoE (s:ByteArray) (k:Nat):Prop:=∀ j,j < k -> isE s j = false
def HitE (s:ByteArray) (k:Nat):Prop:=isE s k = true
variable {S0:Nat -> Prop} {w0 w w':World} {t v b d m c bt bn:Nat} {p n:Int} {A A0:Nat -> Node} {T:Tr} {B R C C':Asr}
theorem tempty_calls {s:ByteArray} (h:VT c p S0 w0 v b d m A A0 (Star (trA t b v T) B) w) (hB:Loc B) (hs:areadB A n 0 2368 = s) :
 Calls Tryz.prog 57 #[.pointer (some ⟨t,0,none⟩),.int .i64 n] w fun e w'=>e = .returned (.bool (emptyB s (s.size / 16))) /\ VT c p S0 w0 v b d m A A0 (Star (trA t b v T) B) w':=by
 refine (callsIn_wide (n:=3)).1 ?_
 have h2368:s.size <= 2368:=by rw [<- hs];exact areadB_size A n
 refine callsIn_of_wp_marks Tryz.func57 rfl trivial ?_ rfl
 simp only [Tryz.ntmps57,List.size_toArray,List.length_cons,List.length_nil,Nat.reduceAdd,Nat.reduceSub,Array.replicate_succ,Array.replicate_zero,List.push_toArray,List.append_toArray,List.nil_append,List.cons_append]
 have HS:=EA.start (e:=4) (cs:=[.bool false]) (n:=n) h hB
 have HS:=hid HS
 have HB:=hid hB
 have HRS:=hid hs
 have HZ:=hid h2368
 clear h hB hs h2368
 rw [wpIn_wide]
 go_wp2_with fail
 refine (tentries_calls _ _ _).mono ?_
 rintro e w1 ⟨rfl,rfl⟩
 go_wp2_with fail
 generalize hWW:(((w.alloc (.cells #[.bool false] 4)).alloc (.cells #[.pointer (some ⟨t,0,none⟩)] tPTree)).alloc (.cells #[.int .i64 n] tInt)) = W0
 obtain ⟨r,hr⟩:∃ r,r = w.heap.size:=⟨_,rfl⟩
 have HW0:Hid (Lv S0 w0 (EA c p v b d m A A0 t (r + 1) (r + 1 + 1) T n (Star (blkA r 4 [.bool false]) (Wth (NoE s 0) B))) W0):=by
  rw [hr,<- hWW]
  exact hid (HS.out.map fun _ h=>star_right h fun _ h=>star_right h fun _ h=>star_right h fun _ h=>star_right h fun _ h=>star_right h fun _ h=>⟨fun _ h=>absurd h (Nat.not_lt_zero _),h⟩)
 rw [<- hr]
 clear HS hWW hr
 rw [<- wpIn_wide (n:=3)]
 refine wpIn_range_lvx (S0:=S0) (w0:=w0) (F:=Fence.wide) (n:=3) rfl (by omega) (gf:=115) (lb:=#[.pointer (some ⟨r + 1,0,none⟩),.pointer (some ⟨r + 1 + 1,0,none⟩)]) rfl trivial (enters_of Tryz.func115 (by kernel_rfl) rfl)
  (fun k=>EA c p v b d m A A0 t (r + 1) (r + 1 + 1) T n (Star (blkA r 4 [.bool false]) (Wth (NoE s k) B)))
  (fun x k=>Wth (x = .ret /\ HitE s k) (EA c p v b d m A A0 t (r + 1) (r + 1 + 1) T n (Star (blkA r 4 [.bool false]) B)))
  (fun _=>loc_EA (loc_star (loc_blk _ _ _) (loc_wth _ HB.out))) (fun _ _=>loc_wth _ (loc_EA (loc_star (loc_blk _ _ _) HB.out))) (s.size / 16)
  (fun k=>#[.int .i64 (16 * k:Nat),.agg #[.int .i64 (entI s k),.string (entS s k)]]) (fun _=>rfl)
  (fun x k=>{ tmps:=#[.pointer (some ⟨t,0,none⟩),.int .i64 n,undef,undef,.pointer (some ⟨r,0,none⟩),.int .i64 (16 * k:Nat),.pointer (some ⟨x,0,none⟩),.pointer (some ⟨t,0,none⟩),.int .i64 n,.func (.func 115) #[] #[.pointer (some ⟨r + 1,0,none⟩),.pointer (some ⟨r + 1 + 1,0,none⟩)],.int .i64 (16 * k:Nat),.agg #[.int .i64 (entI s k),.string (entS s k)],undef,undef,undef,undef,undef,undef,undef],defers:=[] })
  (fun x k=>Star (blkA x tEnt [.int .i64 (entI s k),.string (entS s k)]) (EA c p v b d m A A0 t (r + 1) (r + 1 + 1) T n (Star (blkA r 4 [.bool false]) (Wth (NoE s k) B))))
  (fun _ _=>loc_star (loc_blk _ _ _) (loc_EA (loc_star (loc_blk _ _ _) (loc_wth _ HB.out)))) HW0.out ?seq ?assign ?body ?done ?stop
 case seq =>
  intro l R St W hR hY hW
  have h9:=tents1_calls (S0:=S0) (w0:=w0) (c:=c) (p:=p) (v:=v) (b:=b) (d:=d) (m:=m) (A0:=A0) (t:=t) (T:=T) (bt:=r + 1) (bn:=r + 1 + 1) (N:=s.size / 16) HRS.out rfl HZ.out (fun k=>Star (blkA r 4 [.bool false]) (Wth (NoE s k) B)) (fun _=>loc_star (loc_blk _ _ _) (loc_wth _ HB.out)) l R St W hR
  exact h9 hY hW
 case assign =>
  intro l R k W K hR hk hl hK
  have HKK:=hid hK
  have HLL:=hid hl
  have HRR:=hid hR
  clear hK hl hk hR
  gi_wp2
  have hL:=Lv.box HLL.out (loc_star HRR.out (loc_EA (loc_star (loc_blk _ _ _) (loc_wth _ HB.out)))) tEnt [.int .i64 (entI s k),.string (entS s k)]
  obtain ⟨x,hx⟩:∃ x,x = W.heap.size:=⟨_,rfl⟩
  rw [<- hx] at hL ⊢
  exact HKK.out x _ (hL.map fun _ h=>star_flip h)
 case body =>
  intro l R k x W hR hk hl
  have hx:=EA.box hl
  have hl2:=EA.less hl
  have hr:=EA.blk hl2
  have hk0:NoE s k:=by
   obtain ⟨_,hS⟩:=EA.rest hl2
   obtain ⟨_,_,_,h1,_⟩:=hS
   exact h1.1
  have q0:=hx.cell (j:=0) rfl
  have r0:=hr.cell (j:=0) rfl
  have f0:=hr.free 0
  have HL2:=hid hl2
  have HK0:=hid hk0
  have HRR:=hid hR
  obtain ⟨eI,heI⟩:∃ eI,eI = entI s k:=⟨_,rfl⟩
  rw [<- heI] at q0 ⊢
  have HEI:=hid heI
  have HE:=hid (EA.unpu (EA.turn hl2 hR (loc_wth _ HB.out) (turn_blk 0 (.bool false))))
  clear hx hl hl2 hr hk0 hR heI
  by_cases h0:k = 0
  ·subst h0
   gi_wp2
   exact .inl (EA.map HL2.out fun _ h=>star_right h fun _ h=>⟨fun j hj=>by
    obtain rfl:j = 0:=by omega
    exact decide_eq_false (by omega),h.2⟩)
  ·have hpos:(0:Int) < 16 * (k:Int):=by omega
   have H0:=hid h0
   clear h0
   by_cases hge:0 <= eI
   ·have HGE:=hid hge
    gi_wp2
    exact .inr ⟨.ret,rfl,HE.out.map fun _ h=>star_right h fun _ h=>⟨⟨rfl,decide_eq_true ⟨by have:=H0.out;omega,by rw [<- HEI.out];exact HGE.out⟩⟩,h⟩⟩
   ·have HGE:=hid hge
    gi_wp2
    exact .inl (EA.map HL2.out fun _ h=>star_right h fun _ h=>⟨fun j hj=>by
     by_cases hjk:j < k
     ·exact HK0.out j hjk
     ·obtain rfl:j = k:=by omega
      refine decide_eq_false ?_
      rw [<- HEI.out]
      have:=HGE.out
      omega,h.2⟩)
 case stop =>
  intro D c' k W hk hl
  obtain ⟨_,hp⟩:=hl.second
  obtain ⟨⟨rfl,hE⟩,_⟩:=hp
  have HE:=hid (hl.map fun _ h=>star_right h fun _ h=>h.2)
  have HK:=hid hk
  have HEE:=hid hE
  clear hl hk hE
  gi_wp2
  obtain ⟨hV,hb⟩:=EA.fin2 HE.out HB.out
  refine ⟨by simp,.inl ⟨_,_,rfl,run_takeDeferred HE.out.def_at,?_⟩⟩
  have hcl:=hb.cell (j:=0) rfl
  refine ⟨.bool false,?_,?_,hV⟩
  ·simp [results,Tryz.f57,go_sem,hcl]
  ·rw [empty_at HK.out HEE.out]
 case done =>
  intro D W hl
  have hr:=EA.blk hl
  have hk0:NoE s (s.size / 16):=by
   obtain ⟨_,hS⟩:=EA.rest hl
   obtain ⟨_,_,_,h1,_⟩:=hS
   exact h1.1
  have r0:=hr.cell (j:=0) rfl
  have f0:=hr.free 0
  have HE:=hid (EA.unpu (EA.turn hl (loc_def D) (loc_wth _ HB.out) (turn_blk 0 (.bool true))))
  have HK:=hid hk0
  clear hl hr hk0
  go_wp2_with fail
  obtain ⟨hV,hb⟩:=EA.fin2 HE.out HB.out
  refine ⟨by simp,.inl ⟨_,_,rfl,run_takeDeferred HE.out.def_at,?_⟩⟩
  have hcl:=hb.cell (j:=0) rfl
  refine ⟨.bool true,?_,?_,hV⟩
  ·simp [results,Tryz.f57,go_sem,hcl]
  ·rw [empty_none HK.out]
end
end
section
open Go.RowKit Go.Shelf
attribute [local go_sem] Oper.semAt_some
def NoN (s name:ByteArray) (k:Nat):Prop:=∀ j,j < k -> isA s name j = false
def HitN (s name:ByteArray) (k:Nat):Prop:=isA s name k = true
def fndI (s name:ByteArray):Int:=match fndB s name (s.size / 16) with | none=>-1 | some k=>((16 * k:Nat):Int)
def fndX (s name:ByteArray):Int:=match fndB s name (s.size / 16) with | none=>0 | some k=>entI s k
def fndY (s name:ByteArray):ByteArray:=match fndB s name (s.size / 16) with | none=>⟨#[]⟩ | some k=>entS s k
theorem Tryz.sizeEnt:(Tryz.prog.info? tEnt).map (·.size) = some 2:=by kernel_rfl
section
variable {S0:Nat -> Prop} {w0 w w':World} {t v b d m c bt bn:Nat} {p n:Int} {A A0:Nat -> Node} {T:Tr} {B R C C':Asr}
theorem EA.start3 (h:VT c p S0 w0 v b d m A A0 (Star (trA t b v T) B) w) (hB:Loc B) (name:ByteArray) :
 Lv S0 w0 (EA c p v b d m A A0 t (w.heap.size + 1 + 1 + 1) (w.heap.size + 1 + 1 + 1 + 1) T n (Star (blkA (w.heap.size + 1 + 1) tEnt [.int .i64 0,.string ⟨#[]⟩]) (Star (blkA (w.heap.size + 1) tInt [.int .i64 0]) (Star (blkA w.heap.size 9 [.string name]) B))))
  (((((w.alloc (.cells #[.string name] 9)).alloc (.cells #[.int .i64 0] tInt)).alloc (.cells #[.int .i64 0,.string ⟨#[]⟩] tEnt)).alloc (.cells #[.pointer (some ⟨t,0,none⟩)] tPTree)).alloc (.cells #[.int .i64 n] tInt)):=by
 have l0:Loc (Star (trA t b v T) B):=loc_star (loc_blk _ _ _) hB
 have b1:=h.box l0 9 [.string name]
 have b2:=b1.box (loc_star (loc_blk _ _ _) l0) tInt [.int .i64 0]
 have b3:=b2.box (loc_star (loc_blk _ _ _) (loc_star (loc_blk _ _ _) l0)) tEnt [.int .i64 0,.string ⟨#[]⟩]
 have b4:=b3.box (loc_star (loc_blk _ _ _) (loc_star (loc_blk _ _ _) (loc_star (loc_blk _ _ _) l0))) tPTree [.pointer (some ⟨t,0,none⟩)]
 have b5:=b4.box (loc_star (loc_blk _ _ _) (loc_star (loc_blk _ _ _) (loc_star (loc_blk _ _ _) (loc_star (loc_blk _ _ _) l0)))) tInt [.int .i64 n]
 simp only [World.size_alloc] at b2 b3 b4 b5
 exact b5.asr.map fun _ h=>star_right h fun _ h=>star_right (star_f5 h) fun _ h=>star_right (star_flip h) fun _ h=>h
theorem EA.ne {x y e e':Nat} {cs cs':List Value} (h:Lv S0 w0 (Star R (Star (blkA x e cs) (EA c p v b d m A A0 t bt bn T n (Star (blkA y e' cs') B)))) w):¬ x = y:=by
 obtain ⟨_,⟨_,_,_,⟨S,U,h1,⟨_,_,_,⟨_,_,_,⟨_,_,_,⟨_,_,_,⟨S2,_,h2,_,_,q1,_⟩,_,_,q2⟩,_,_,q3⟩,_,_,q4⟩,_,_,q5⟩,hd,_⟩,_⟩,_⟩:=h
 intro e
 subst e
 exact hd x h1.2 (q5 _ (q4 _ (q3 _ (q2 _ (q1 _ h2.2)))))
theorem EA.swap (h:Lv S0 w0 (Star R (EA c p v b d m A A0 t bt bn T n (Star C (Star C' B)))) w):Lv S0 w0 (Star R (EA c p v b d m A A0 t bt bn T n (Star C' (Star C B)))) w:=EA.map h fun _ h=>star_flip h
theorem results_int_blk {w:World} {b0 b1:Nat} {cs:List Value} {y:Value} {fn:Func} {q p:Tmp} {ty:TypeId} (h:fn.results = #[.cell q tInt,.cell p ty]) {tmps:Array Value} (hq:tmps.getD q undef = .pointer (some ⟨b0,0,none⟩)) (hp:tmps.getD p undef = .pointer (some ⟨b1,0,none⟩))
 (c0:w.cell? ⟨b0,0,none⟩ = some y) (h1:(loadVar ty ⟨b1,0,none⟩).run Tryz.prog w = .ok (.agg cs.toArray) w) :
 (results fn tmps).run Tryz.prog w = .ok (.tuple #[y,.agg cs.toArray]) w:=by
 have hq':tmps[q]?.getD undef = .pointer (some ⟨b0,0,none⟩):=by simpa using hq
 have hp':tmps[p]?.getD undef = .pointer (some ⟨b1,0,none⟩):=by simpa using hp
 have h2:(loadVar tInt ⟨b0,0,none⟩).run Tryz.prog w = .ok y w:=by simp [loadVar,go_sem,c0]
 simp [results,h,hq',hp',asAddr,h1,h2]
theorem load_ent {w:World} {b1:Nat} {x y:Value} (hb:Blk w b1 tEnt [x,y]):(loadVar tEnt ⟨b1,0,none⟩).run Tryz.prog w = .ok (.agg [x,y].toArray) w :=
 run_loadVar_row w b1 tEnt tEnt [x,y].toArray (0,0) _ hb Tryz.underlying103 rfl (by simpa using Tryz.sizeEnt)
theorem EA.fin4 {D r0 r1 r2 e0 e1 e2:Nat} {cs0 cs1 cs2:List Value} (h:Lv S0 w0 (Star (defA D) (EA c p v b d m A A0 t bt bn T n (Star (blkA r0 e0 cs0) (Star (blkA r1 e1 cs1) (Star (blkA r2 e2 cs2) B))))) w) (hB:Loc B) :
 VT c p S0 w0 v b d m A A0 (Star (trA t b v T) B) (w.putObj D (.deferred none)) /\ Blk (w.putObj D (.deferred none)) r0 e0 cs0 /\ Blk (w.putObj D (.deferred none)) r1 e1 cs1:=by
 have l3:Loc (Star (blkA r1 e1 cs1) (Star (blkA r2 e2 cs2) B)):=loc_star (loc_blk _ _ _) (loc_star (loc_blk _ _ _) hB)
 have h1:=EA.fin h (loc_blk _ _ _) l3
 refine ⟨h1.map fun _ _ h=>star_less (star_less h),?_,?_⟩
 ·exact (EA.fin2 h l3).2
 ·have h5:=h.shut (loc_EA (loc_star (loc_blk _ _ _) l3))
  have h6:Lv S0 w0 (Star Emp (EA c p v b d m A A0 t bt bn T n (Star (blkA r0 e0 cs0) (Star (blkA r1 e1 cs1) (Star (blkA r2 e2 cs2) B))))) (w.putObj D (.deferred none)):=h5.map fun U h=>⟨Nob,U,trivial,h,fun _ h=>h.elim,fun _ h=>h.elim,fun _ h=>h⟩
  exact EA.blk (EA.swap h6)
theorem tfind_calls {s:ByteArray} (h:VT c p S0 w0 v b d m A A0 (Star (trA t b v T) B) w) (hB:Loc B) (hs:areadB A n 0 2368 = s) (name:ByteArray) :
 Calls Tryz.prog 56 #[.pointer (some ⟨t,0,none⟩),.int .i64 n,.string name] w fun e w'=>e = .returned (.tuple #[.int .i64 (fndI s name),.agg #[.int .i64 (fndX s name),.string (fndY s name)]]) /\ VT c p S0 w0 v b d m A A0 (Star (trA t b v T) B) w':=by
 refine (callsIn_wide (n:=3)).1 ?_
 have h2368:s.size <= 2368:=by rw [<- hs];exact areadB_size A n
 refine callsIn_of_wp_marks Tryz.func56 rfl trivial ?_ rfl
 simp only [Tryz.ntmps56,List.size_toArray,List.length_cons,List.length_nil,Nat.reduceAdd,Nat.reduceSub,Array.replicate_succ,Array.replicate_zero,List.push_toArray,List.append_toArray,List.nil_append,List.cons_append]
 have HS:=EA.start3 (n:=n) h hB name
 have HS:=hid HS
 have HB:=hid hB
 have HRS:=hid hs
 have HZ:=hid h2368
 clear h hB hs h2368
 rw [wpIn_wide]
 go_wp2_with fail
 refine (tentries_calls _ _ _).mono ?_
 rintro e w1 ⟨rfl,rfl⟩
 go_wp2_with fail
 generalize hWW:(((((w.alloc (.cells #[.string name] 9)).alloc (.cells #[.int .i64 0] tInt)).alloc (.cells #[.int .i64 0,.string ⟨#[]⟩] tEnt)).alloc (.cells #[.pointer (some ⟨t,0,none⟩)] tPTree)).alloc (.cells #[.int .i64 n] tInt)) = W0
 obtain ⟨r,hr⟩:∃ r,r = w.heap.size:=⟨_,rfl⟩
 have HW0:Hid (Lv S0 w0 (EA c p v b d m A A0 t (r + 1 + 1 + 1) (r + 1 + 1 + 1 + 1) T n (Star (blkA (r + 1) tInt [.int .i64 0]) (Star (blkA (r + 1 + 1) tEnt [.int .i64 0,.string ⟨#[]⟩]) (Star (blkA r 9 [.string name]) (Wth (NoN s name 0) B))))) W0):=by
  rw [hr,<- hWW]
  exact hid (HS.out.map fun _ h=>star_right h fun _ h=>star_right h fun _ h=>star_right h fun _ h=>star_right h fun _ h=>star_right (star_flip h) fun _ h=>star_right h fun _ h=>star_right h fun _ h=>⟨fun _ h=>absurd h (Nat.not_lt_zero _),h⟩)
 rw [<- hr]
 clear HS hWW hr
 rw [<- wpIn_wide (n:=3)]
 refine wpIn_range_lvx (S0:=S0) (w0:=w0) (F:=Fence.wide) (n:=3) rfl (by omega) (gf:=115) (lb:=#[.pointer (some ⟨r + 1 + 1 + 1,0,none⟩),.pointer (some ⟨r + 1 + 1 + 1 + 1,0,none⟩)]) rfl trivial (enters_of Tryz.func115 (by kernel_rfl) rfl)
  (fun k=>EA c p v b d m A A0 t (r + 1 + 1 + 1) (r + 1 + 1 + 1 + 1) T n (Star (blkA (r + 1) tInt [.int .i64 0]) (Star (blkA (r + 1 + 1) tEnt [.int .i64 0,.string ⟨#[]⟩]) (Star (blkA r 9 [.string name]) (Wth (NoN s name k) B)))))
  (fun x k=>Wth (x = .ret /\ HitN s name k /\ NoN s name k) (EA c p v b d m A A0 t (r + 1 + 1 + 1) (r + 1 + 1 + 1 + 1) T n (Star (blkA (r + 1) tInt [.int .i64 (16 * k:Nat)]) (Star (blkA (r + 1 + 1) tEnt [.int .i64 (entI s k),.string (entS s k)]) (Star (blkA r 9 [.string name]) B)))))
  (fun _=>loc_EA (loc_star (loc_blk _ _ _) (loc_star (loc_blk _ _ _) (loc_star (loc_blk _ _ _) (loc_wth _ HB.out))))) (fun _ _=>loc_wth _ (loc_EA (loc_star (loc_blk _ _ _) (loc_star (loc_blk _ _ _) (loc_star (loc_blk _ _ _) HB.out))))) (s.size / 16)
  (fun k=>#[.int .i64 (16 * k:Nat),.agg #[.int .i64 (entI s k),.string (entS s k)]]) (fun _=>rfl)
  (fun x k=>{ tmps:=#[.pointer (some ⟨t,0,none⟩),.int .i64 n,.string name,undef,undef,.pointer (some ⟨r,0,none⟩),.pointer (some ⟨r + 1,0,none⟩),.pointer (some ⟨r + 1 + 1,0,none⟩),.int .i64 (16 * k:Nat),.pointer (some ⟨x,0,none⟩),.pointer (some ⟨t,0,none⟩),.int .i64 n,.func (.func 115) #[] #[.pointer (some ⟨r + 1 + 1 + 1,0,none⟩),.pointer (some ⟨r + 1 + 1 + 1 + 1,0,none⟩)],.int .i64 (16 * k:Nat),.agg #[.int .i64 (entI s k),.string (entS s k)],undef,undef,undef,undef,undef,undef,undef,undef,undef,undef,undef,undef,undef,undef,undef,undef],defers:=[] })
  (fun x k=>Star (blkA x tEnt [.int .i64 (entI s k),.string (entS s k)]) (EA c p v b d m A A0 t (r + 1 + 1 + 1) (r + 1 + 1 + 1 + 1) T n (Star (blkA (r + 1) tInt [.int .i64 0]) (Star (blkA (r + 1 + 1) tEnt [.int .i64 0,.string ⟨#[]⟩]) (Star (blkA r 9 [.string name]) (Wth (NoN s name k) B))))))
  (fun _ _=>loc_star (loc_blk _ _ _) (loc_EA (loc_star (loc_blk _ _ _) (loc_star (loc_blk _ _ _) (loc_star (loc_blk _ _ _) (loc_wth _ HB.out)))))) HW0.out ?seq ?assign ?body ?done ?stop
 case seq =>
  intro l R St W hR hY hW
  have h9:=tents1_calls (S0:=S0) (w0:=w0) (c:=c) (p:=p) (v:=v) (b:=b) (d:=d) (m:=m) (A0:=A0) (t:=t) (T:=T) (bt:=r + 1 + 1 + 1) (bn:=r + 1 + 1 + 1 + 1) (N:=s.size / 16) HRS.out rfl HZ.out (fun k=>(Star (blkA (r + 1) tInt [.int .i64 0]) (Star (blkA (r + 1 + 1) tEnt [.int .i64 0,.string ⟨#[]⟩]) (Star (blkA r 9 [.string name]) (Wth (NoN s name k) B))))) (fun _=>loc_star (loc_blk _ _ _) (loc_star (loc_blk _ _ _) (loc_star (loc_blk _ _ _) (loc_wth _ HB.out)))) l R St W hR
  exact h9 hY hW
 case assign =>
  intro l R k W K hR hk hl hK
  have HKK:=hid hK
  have HLL:=hid hl
  have HRR:=hid hR
  clear hK hl hk hR
  gi_wp2
  have hL:=Lv.box HLL.out (loc_star HRR.out (loc_EA (loc_star (loc_blk _ _ _) (loc_star (loc_blk _ _ _) (loc_star (loc_blk _ _ _) (loc_wth _ HB.out)))))) tEnt [.int .i64 (entI s k),.string (entS s k)]
  obtain ⟨x,hx⟩:∃ x,x = W.heap.size:=⟨_,rfl⟩
  rw [<- hx] at hL ⊢
  exact HKK.out x _ (hL.map fun _ h=>star_flip h)
 case body =>
  intro l R k x W hR hk hl
  have hx:=EA.box hl
  have hn1:¬ x = r + 1:=EA.ne hl
  have hn2:¬ x = r + 1 + 1:=EA.ne (hl.map fun _ h=>star_right h fun _ h=>star_right h fun _ h=>star_right h fun _ h=>star_right h fun _ h=>star_right h fun _ h=>star_right h fun _ h=>star_flip h)
  have hn3:¬ r + 1 = x:=fun h=>hn1 h.symm
  have hn4:¬ r + 1 + 1 = x:=fun h=>hn2 h.symm
  have hl2:=EA.less hl
  have hri:=EA.blk hl2
  have hrs:=EA.blk (EA.swap hl2)
  have hrn:=EA.blk (EA.swap (EA.map hl2 fun _ h=>star_right h fun _ h=>star_flip h))
  have hk0:NoN s name k:=by
   obtain ⟨_,hS⟩:=EA.rest hl2
   obtain ⟨_,_,_,⟨_,_,_,⟨_,_,_,h1,_⟩,_⟩,_⟩:=hS
   exact h1.1
  have q0:=hx.cell (j:=0) rfl
  have q1:=hx.cell (j:=1) rfl
  have i0:=hri.cell (j:=0) rfl
  have fi:=hri.free 0
  have s0:=hrs.cell (j:=0) rfl
  have fs0:=hrs.free 0
  have s1:=hrs.cell (j:=1) rfl
  have fs1:=hrs.free 1
  have n0:=hrn.cell (j:=0) rfl
  have HL2:=hid hl2
  have HK0:=hid hk0
  have HRR:=hid hR
  obtain ⟨eI,heI⟩:∃ eI,eI = entI s k:=⟨_,rfl⟩
  obtain ⟨eS,heS⟩:∃ eS,eS = entS s k:=⟨_,rfl⟩
  rw [<- heI] at q0 ⊢
  rw [<- heS] at q1 ⊢
  have HEI:=hid heI
  have HES:=hid heS
  clear hx hl hl2 hri hrs hrn hk0 hR heI heS
  have hno:isA s name k = false -> Lv S0 w0 (Star R (EA c p v b d m A A0 t (r + 1 + 1 + 1) (r + 1 + 1 + 1 + 1) T n (Star (blkA (r + 1) tInt [.int .i64 0]) (Star (blkA (r + 1 + 1) tEnt [.int .i64 0,.string ⟨#[]⟩]) (Star (blkA r 9 [.string name]) (Wth (NoN s name (k + 1)) B)))))) W:=fun hf =>
   EA.map HL2.out fun _ h=>star_right h fun _ h=>star_right h fun _ h=>star_right h fun _ h=>⟨fun j hj=>by
    by_cases hjk:j < k
    ·exact HK0.out j hjk
    ·obtain rfl:j = k:=by omega
     exact hf,h.2⟩
  have HNO:=hid hno
  clear hno
  by_cases h0:k = 0
  ·have HF:=hid (HNO.out (decide_eq_false (by omega)))
   subst h0
   gi_wp2
   exact .inl HF.out
  ·have hpos:(0:Int) < 16 * (k:Int):=by omega
   have H0:=hid h0
   clear h0
   by_cases hge:0 <= eI
   ·have HGE:=hid hge
    by_cases hnm:eS = name
    ·skip
     have hq2:(eS.toList == name.toList) = true:=by rw [bytes_beq];exact decide_eq_true hnm
     have hhit:HitN s name k:=decide_eq_true ⟨by have:=H0.out;omega,by rw [<- HEI.out];exact HGE.out,by rw [<- HES.out];exact hnm⟩
     have HHIT:=hid hhit
     have HE:=hid (EA.map (EA.swap (EA.turn (EA.swap (EA.turn (EA.swap (EA.turn HL2.out HRR.out (loc_star (loc_blk _ _ _) (loc_star (loc_blk _ _ _) (loc_wth _ HB.out))) (turn_blk 0 (.int .i64 (16 * k:Nat))))) HRR.out (loc_star (loc_blk _ _ _) (loc_star (loc_blk _ _ _) (loc_wth _ HB.out))) (turn_blk 0 (.int .i64 eI))) |> EA.swap) HRR.out (loc_star (loc_blk _ _ _) (loc_star (loc_blk _ _ _) (loc_wth _ HB.out))) (turn_blk 1 (.string eS)))) fun _ h=>star_right h fun _ h=>star_right h fun _ h=>star_right h fun _ h=>h.2)
     clear hnm hhit HNO
     gi_wp2
     gi_region
     all_goals
      gi_wp2
      refine .inr ⟨.ret,rfl,?_⟩
      have hE2:=HE.out
      rw [show (((16 * k:Nat):Int)) = 16 * (k:Int) by omega] at hE2
      have hE3:=hE2.drew (loc_star HRR.out (loc_EA (loc_star (loc_blk _ _ _) (loc_star (loc_blk _ _ _) (loc_star (loc_blk _ _ _) HB.out)))))
      refine hE3.map fun _ h=>star_right h fun _ h=>⟨⟨rfl,HHIT.out,HK0.out⟩,?_⟩
      rw [show (((16 * k:Nat):Int)) = 16 * (k:Int) by omega]
      exact h
    ·skip
     have hq2:(eS.toList == name.toList) = false:=by rw [bytes_beq];exact decide_eq_false hnm
     have HF:=hid (HNO.out (decide_eq_false fun ⟨_,_,h⟩=>hnm (by rw [HES.out];exact h)))
     clear hnm
     gi_wp2
     exact .inl HF.out
   ·have HGE:=hid hge
    have HF:=hid (HNO.out (decide_eq_false fun ⟨_,h,_⟩=>hge (by rw [HEI.out];exact h)))
    gi_wp2
    exact .inl HF.out
 case stop =>
  intro D c' k W hk hl
  obtain ⟨_,hp⟩:=hl.second
  obtain ⟨⟨rfl,hH,hN⟩,_⟩:=hp
  have HE:=hid (hl.map fun _ h=>star_right h fun _ h=>h.2)
  have HK:=hid (fnd_at hk hH hN)
  clear hl hk hH hN
  gi_wp2
  obtain ⟨hV,hb0,hb1⟩:=EA.fin4 HE.out HB.out
  refine ⟨by simp,.inl ⟨_,_,rfl,run_takeDeferred HE.out.def_at,?_⟩⟩
  refine ⟨.tuple #[.int .i64 (16 * k:Nat),.agg #[.int .i64 (entI s k),.string (entS s k)]],?_,?_,hV⟩
  ·exact results_int_blk rfl rfl rfl (hb0.cell (j:=0) rfl) (load_ent hb1)
  ·unfold fndI fndX fndY
   rw [HK.out]
 case done =>
  intro D W hl
  have hri:=EA.blk hl
  have hrs:=EA.blk (EA.swap hl)
  have hk0:NoN s name (s.size / 16):=by
   obtain ⟨_,hS⟩:=EA.rest hl
   obtain ⟨_,_,_,⟨_,_,_,⟨_,_,_,h1,_⟩,_⟩,_⟩:=hS
   exact h1.1
  have i0:=hri.cell (j:=0) rfl
  have fi:=hri.free 0
  have s0:=hrs.cell (j:=0) rfl
  have fs0:=hrs.free 0
  have s1:=hrs.cell (j:=1) rfl
  have fs1:=hrs.free 1
  have HL:=hid hl
  have HK:=hid hk0
  clear hl hri hrs hk0
  have HE:=hid (EA.map (EA.swap (EA.turn (EA.swap (EA.turn (EA.swap (EA.turn HL.out (loc_def D) (loc_star (loc_blk _ _ _) (loc_star (loc_blk _ _ _) (loc_wth _ HB.out))) (turn_blk 0 (.int .i64 (-1))))) (loc_def D) (loc_star (loc_blk _ _ _) (loc_star (loc_blk _ _ _) (loc_wth _ HB.out))) (turn_blk 0 (.int .i64 0))) |> EA.swap) (loc_def D) (loc_star (loc_blk _ _ _) (loc_star (loc_blk _ _ _) (loc_wth _ HB.out))) (turn_blk 1 (.string ⟨#[]⟩)))) fun _ h=>star_right h fun _ h=>star_right h fun _ h=>star_right h fun _ h=>h.2)
  go_wp2_with fail
  obtain ⟨hV,hb0,hb1⟩:=EA.fin4 HE.out HB.out
  refine ⟨by simp,.inl ⟨_,_,rfl,run_takeDeferred HE.out.def_at,?_⟩⟩
  refine ⟨.tuple #[.int .i64 (-1),.agg #[.int .i64 0,.string ⟨#[]⟩]],?_,?_,hV⟩
  ·exact results_int_blk rfl rfl rfl (hb0.cell (j:=0) rfl) (load_ent hb1)
  ·unfold fndI fndX fndY
   rw [fnd_none HK.out]
end
end
end Go.Proofs.YtngalllaiphkhaaGreatDoor
