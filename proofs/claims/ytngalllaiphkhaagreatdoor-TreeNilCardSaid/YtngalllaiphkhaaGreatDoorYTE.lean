import Derived.Test.YtngalllaiphkhaaGreatDoorYTD
namespace Go.Proofs.YtngalllaiphkhaaGreatDoor
open Go.RowKit
open Go.Lib (hid)
set_option maxRecDepth 100000
set_option maxHeartbeats 16000000
set_option linter.unusedVariables false
set_option linter.unusedSimpArgs false
section
open Go.RowKit Go.Shelf
def lastM (n:Nat):List ByteArray -> Nat × ByteArray × Int
 | []=>(0,ByteArray.empty,8)
 | s :: _=>if namedT s = false then (0,ByteArray.empty,8) else (n,s,0)
def lastR (T:Tr) (r1:Nat) (r2:List ByteArray) (r3:Int):Nat × ByteArray × Int:=if r3 ≠ 0 then (0,ByteArray.empty,r3) else if (T r1).kind ≠ 2 then (0,ByteArray.empty,11) else lastM r1 r2
theorem walk_last2 (T:Tr) (from_:Int) (path:ByteArray):lastT T from_ path = lastR T (walkT T from_ path 1).1 (walkT T from_ path 1).2.1 (walkT T from_ path 1).2.2:=by
 rw [walk_last]
 unfold lastR
 cases (walkT T from_ path 1).2.1 <;> rfl
section
variable {S0:Nat -> Prop} {w0 w w':World} {t v b d m c bt bn:Nat} {p:Int} {A A0:Nat -> Node} {T:Tr} {B R C C':Asr} {n:Int}
theorem PA.parts {l:List ByteArray} {a:Nat} (h:VT c p S0 w0 v b d m A A0 (Star (trA t b v T) (Star (prtA a l) B)) w) {j:Nat} {s:ByteArray} (hj:l[j]? = some s):w.cell? ⟨a,j,none⟩ = some (.string s):=by
 obtain ⟨_,_,_,⟨_,⟨_,_,_,⟨_,_,_,⟨_,_,_,⟨_,_,_,⟨_,_,h3,_⟩,_⟩,_⟩,_⟩,_⟩,_⟩,_⟩:=h
 have h5:=h3.1.cells (g:=a) rfl j (.string s) (by rw [strsT,List.getElem?_map,hj];rfl)
 rw [Addr.add_lit,Nat.zero_add] at h5
 exact h5
theorem walk_rest {from_:Int} {path:ByteArray} (h:(walkT T from_ path 1).2.2 = 0):(walkT T from_ path 1).2.1 = (partsT path).drop ((partsT path).length - 1):=by
 unfold walkT at h ⊢
 split at h
 ·next h1=>exact absurd h h1
 ·next h1 =>
  rw [if_neg h1]
  split at h
  ·next h2=>exact absurd h h2
  ·next h2=>rw [if_neg h2]
theorem tlast_calls (h:VT c p S0 w0 v b d m (volT T) A0 (Star (trA t b v T) B) w) (hB:Loc B) (hI:TInv T) (from_:Int) (path:ByteArray) :
 Calls Tryz.prog 55 #[.pointer (some ⟨t,0,none⟩),.int .i64 from_,.string path] w fun e w' =>
  e = .returned (.tuple #[.int .i64 (lastT T from_ path).1,.string (lastT T from_ path).2.1,.int .i64 (lastT T from_ path).2.2]) /\ VT c p S0 w0 v b d m (volT T) A0 (Star (trA t b v T) B) w':=by
 have HW:=twalk_calls h hB hI from_ path 1 (Nat.le_refl _)
 have hl:=walk_last2 T from_ path
 have hr:=walk_rest (T:=T) (from_:=from_) (path:=path)
 have hok:=walk_ok hI (from_:=from_) (path:=path) (left:=1)
 obtain ⟨r,hr0⟩:∃ r,r = walkT T from_ path 1:=⟨_,rfl⟩
 obtain ⟨q,hq⟩:∃ q,q = lastT T from_ path:=⟨_,rfl⟩
 rw [<- hr0] at HW hr hok
 rw [<- hq]
 rw [<- hq,<- hr0] at hl
 clear hr0 hq
 obtain ⟨r1,r2,r3⟩:=r
 have HW:=hid HW
 have HB:=hid hB
 have HL:=hid hl
 have HR:=hid hr
 have HOK:=hid hok
 clear h hB hI hl hr hok
 go_enter Tryz.func55,Tryz.ntmps55
 go_wp2_with fail
 refine HW.out.mono ?_
 rintro e w1 (⟨hne,rfl,V1⟩ | ⟨h0,a,o,ho,rfl,V1⟩)
 ·have hne:r3 ≠ 0:=hne
  have e0:(r3 != 0) = true:=by simpa using hne
  have hres:q = (0,ByteArray.empty,r3):=by rw [HL.out];unfold lastR;rw [if_pos hne]
  subst hres
  have HV:=hid V1
  clear V1 hne HW
  go_wp2_with fail
  go_ret3
  exact ⟨rfl,HV.out⟩
 ·have h0:r3 = 0:=h0
  subst h0
  have HL2:q = if (T r1).kind ≠ 2 then (0,ByteArray.empty,11) else lastM r1 r2:=HL.out
  have hrest:r2 = (partsT path).drop ((partsT path).length - 1):=HR.out rfl
  obtain ⟨o1,o2⟩:=HOK.out rfl
  have o1:r1 < 32:=o1
  have hlB:Loc (Star (prtA a (partsT path)) B):=loc_star (loc_row _ _ _ _ _) HB.out
  have HD:=tisdir_calls V1 hlB r1
  rw [adir_vol] at HD
  have hisd:isDirT T r1 = decide ((T r1).kind = 2):=by
   unfold isDirT
   rw [decide_eq_decide]
   constructor
   ·rintro ⟨_,_,h⟩;exact h
   ·intro h;exact ⟨by omega,by omega,h⟩
  rw [hisd] at HD
  obtain ⟨l,hll⟩:∃ l,l = partsT path:=⟨_,rfl⟩
  rw [<- hll] at HD ho hrest hlB ⊢
  have HLB:=hid hlB
  have HO:=hid ho
  have HRE:=hid hrest
  have HQ:=hid HL2
  clear HW V1 HL HR HOK hisd hlB ho hrest HL2 hll o2
  by_cases hk:(T r1).kind = 2
  ·rw [decide_eq_true hk] at HD
   have HD:=hid HD
   have HK:=hid hk
   clear hk
   cases l with
   | nil =>
    have hres:q = (0,ByteArray.empty,8):=by rw [HQ.out,if_neg (not_not_intro HK.out),HRE.out];rfl
    subst hres
    go_wp2_with fail
    refine HD.out.mono ?_
    rintro e w2 ⟨rfl,V2⟩
    have HV:=hid V2
    clear V2 HD
    go_wp2_with fail
    go_ret3
    exact ⟨rfl,HV.out.map fun _ _ h=>star_less h⟩
   | cons x l' =>
    obtain ⟨s,hs⟩:∃ s,(x :: l')[l'.length]? = some s:=⟨_,List.getElem?_eq_getElem (by simp)⟩
    have hr2:r2 = [s]:=by
     rw [HRE.out,List.drop_eq_getElem_cons (by simp)]
     congr 1
     ·exact Option.some.inj ((List.getElem?_eq_getElem (by simp)).symm.trans hs)
     ·exact List.drop_of_length_le (by simp)
    have hoo:o = l'.length:=HO.out (by simp)
    subst hoo
    have hm1:min 1 (x :: l').length = 1:=by simp
    rw [hm1]
    obtain ⟨nm,hnm⟩:∃ nm,nm = namedT s:=⟨_,rfl⟩
    have HN0:=tnamed_calls s
    rw [<- hnm] at HN0
    have HN0:=hid HN0
    have HR2:=hid hr2
    have HNM:=hid hnm
    have HS:=hid hs
    clear hr2 hnm hs hm1
    obtain ⟨o,hoo⟩:∃ o,o = l'.length:=⟨_,rfl⟩
    rw [<- hoo]
    have HOO:=hid hoo
    clear hoo
    go_wp2_with fail
    refine HD.out.mono ?_
    rintro e w2 ⟨rfl,V2⟩
    have q0:w2.cell? ⟨a,o,none⟩ = some (.string s):=PA.parts V2 (by rw [HOO.out];exact HS.out)
    have HV:=hid V2
    clear V2 HD
    go_wp2_with fail
    refine (HN0.out _).mono ?_
    rintro e w3 ⟨rfl,hf3⟩
    have V3:=HV.out.keep (loc_star (loc_blk _ _ _) HLB.out) hf3
    have q3:w3.cell? ⟨a,o,none⟩ = some (.string s):=PA.parts V3 (by rw [HOO.out];exact HS.out)
    have HV3:=hid V3
    clear V3 hf3 q0
    cases nm with
    | false =>
     have hres:q = (0,ByteArray.empty,8):=by rw [HQ.out,if_neg (not_not_intro HK.out),HR2.out];exact if_pos HNM.out.symm
     subst hres
     clear q3
     go_wp2_with fail
     go_ret3
     exact ⟨rfl,HV3.out.map fun _ _ h=>star_less h⟩
    | true =>
     have hres:q = (r1,s,0):=by rw [HQ.out,if_neg (not_not_intro HK.out),HR2.out];exact if_neg (by rw [<- HNM.out];decide)
     subst hres
     go_wp2_with fail
     go_region
     all_goals
      go_wp2_with fail
      go_ret3
      exact ⟨rfl,(HV3.out.keep (loc_star (loc_blk _ _ _) HLB.out) (Fr.refl _ _).drew).map fun _ _ h=>star_less h⟩
  ·rw [decide_eq_false hk] at HD
   have HD:=hid HD
   have hres:q = (0,ByteArray.empty,11):=by rw [HQ.out,if_pos hk]
   subst hres
   clear hk
   go_wp2_with fail
   refine HD.out.mono ?_
   rintro e w2 ⟨rfl,V2⟩
   have HV:=hid V2
   clear V2 HD
   go_wp2_with fail
   go_ret3
   exact ⟨rfl,HV.out.map fun _ _ h=>star_less h⟩
theorem tFind_calls (h:TV p S0 w0 t v b d m T B w) (hB:Loc B) (hI:TInv T) (from_:Int) (path:ByteArray) :
 Calls Tryz.prog 13 #[.pointer (some ⟨t,0,none⟩),.int .i64 from_,.string path] w fun e w' =>
  e = .returned (.tuple #[.int .i64 (findT T from_ path).1,.int .i64 (findT T from_ path).2]) /\ TV p S0 w0 t v b d m T B w':=by
 have HA:=hid (talive_calls h hB)
 have HB:=hid hB
 have HI:=hid hI
 obtain ⟨g1,g2⟩:=walk_find (T:=T) from_ path
 obtain ⟨f,hf⟩:∃ f,f = findT T from_ path:=⟨_,rfl⟩
 rw [<- hf] at g1 g2 ⊢
 have HG1:=hid g1
 have HG2:=hid g2
 have hbad:(walkT T from_ path 0).2.2 ≠ 0 -> (walkT T from_ path 0).1 = 0:=fun h=>by
  unfold walkT at h ⊢
  split
  ·rfl
  ·next h1 =>
   rw [if_neg h1] at h
   split
   ·rfl
   ·next h2=>rw [if_neg h2] at h;exact absurd rfl h
 have HBAD:=hid hbad
 clear h hB hI g1 g2 hf hbad
 go_enter Tryz.func13,Tryz.ntmps13
 go_wp2_with fail
 refine HA.out.mono ?_
 rintro e w1 ⟨rfl,V1⟩
 have HW:=hid (twalk_calls V1 HB.out HI.out from_ path 0 (Nat.zero_le _))
 clear V1 HA
 go_wp2_with fail
 refine HW.out.mono ?_
 rintro e w2 (⟨hne,rfl,V2⟩ | ⟨h0,a,o,ho,rfl,V2⟩)
 ·have HV:=hid V2
  have HNE:=hid hne
  clear V2 hne HW
  go_wp2_with fail
  go_ret2
  refine ⟨?_,HV.out⟩
  rw [<- HG1.out,<- HG2.out,HBAD.out HNE.out]
  rfl
 ·have HV:=hid V2
  have HNE:=hid h0
  clear V2 h0 HW ho
  go_wp2_with fail
  go_ret2
  refine ⟨?_,HV.out.map fun _ _ h=>star_less h⟩
  rw [<- HG1.out,<- HG2.out,HNE.out]
  rfl
end
end
section
open Go.RowKit Go.Shelf
attribute [local go_sem] Oper.semAt_some
def freshE (T:Tr) (r:Nat × ByteArray × Int):Int:=if r.2.2 ≠ 0 then r.2.2 else if (entryT (T r.1) r.2.1).isSome then 9 else 0
section
variable {S0:Nat -> Prop} {w0 w w':World} {t v b d m c bt bn:Nat} {p:Int} {A A0:Nat -> Node} {T:Tr} {B R C C':Asr} {n:Int}
theorem tfresh_calls (h:VT c p S0 w0 v b d m (volT T) A0 (Star (trA t b v T) B) w) (hB:Loc B) (hI:TInv T) (from_:Int) (path:ByteArray) :
 Calls Tryz.prog 45 #[.pointer (some ⟨t,0,none⟩),.int .i64 from_,.string path] w fun e w' =>
  e = .returned (.tuple #[.int .i64 (lastT T from_ path).1,.string (lastT T from_ path).2.1,.int .i64 (freshE T (lastT T from_ path))]) /\ VT c p S0 w0 v b d m (volT T) A0 (Star (trA t b v T) B) w':=by
 have HW:=tlast_calls h hB hI from_ path
 have hok:=lastT_ok hI (from_:=from_) (path:=path)
 obtain ⟨r,hr0⟩:∃ r,r = lastT T from_ path:=⟨_,rfl⟩
 rw [<- hr0] at HW hok ⊢
 clear hr0
 obtain ⟨r1,r2,r3⟩:=r
 have HW:=hid HW
 have HB:=hid hB
 have HI:=hid hI
 obtain ⟨fE,hfE⟩:∃ fE,fE = freshE T (r1,r2,r3):=⟨_,rfl⟩
 rw [<- hfE]
 have HFE:=hid hfE
 by_cases h0:r3 = 0
 ·subst h0
  obtain ⟨o1,o2,_⟩:=hok rfl
  have hdk:=hI.toTShape.dirOk o1 o2
  obtain ⟨s,hs⟩:∃ s,areadB (volT T) r1 0 2368 = s:=⟨_,rfl⟩
  obtain ⟨va,vb⟩:=fnd_vals hdk hs r2
  have HS:=hid hs
  cases he:entryT (T r1) r2 with
  | none =>
   have hres:fE = 0:=by rw [hfE];unfold freshE;rw [if_neg (fun h=>h rfl)];show (if (entryT (T r1) r2).isSome then (9:Int) else 0) = 0;rw [he];rfl
   obtain ⟨a1,a2,a3⟩:=va he
   have A1:=hid a1
   have A2:=hid a2
   have A3:=hid a3
   subst hres
   clear h hB hI hok hfE hdk hs va vb a1 a2 a3 he o1 o2
   go_enter Tryz.func45,Tryz.ntmps45
   go_wp2_with fail
   refine HW.out.mono ?_
   rintro e w1 ⟨rfl,V1⟩
   have HF:=tfind_calls V1 HB.out HS.out r2
   rw [A1.out,A2.out,A3.out] at HF
   have HF:=hid HF
   clear V1 HW
   go_wp2_with fail
   refine HF.out.mono ?_
   rintro e w2 ⟨rfl,V2⟩
   have HV:=hid V2
   clear V2 HF
   go_wp2_with fail
   go_ret3
   exact ⟨rfl,HV.out.keep (loc_star (loc_blk _ _ _) HB.out) ((Fr.refl _ _).alloc _)⟩
  | some j =>
   have hres:fE = 9:=by rw [hfE];unfold freshE;rw [if_neg (fun h=>h rfl)];show (if (entryT (T r1) r2).isSome then (9:Int) else 0) = 9;rw [he];rfl
   obtain ⟨a1,a2,a3⟩:=vb j he
   obtain ⟨q,hq⟩:∃ q,q = 16 * (j + 1):=⟨_,rfl⟩
   rw [<- hq] at a1
   obtain ⟨ino,hino⟩:∃ ino,ino = inoT (T r1) j:=⟨_,rfl⟩
   rw [<- hino] at a2
   have A1:=hid a1
   have A2:=hid a2
   have A3:=hid a3
   subst hres
   clear h hB hI hok hfE hdk hs va vb a1 a2 a3 he o1 o2 hq hino
   go_enter Tryz.func45,Tryz.ntmps45
   go_wp2_with fail
   refine HW.out.mono ?_
   rintro e w1 ⟨rfl,V1⟩
   have HF:=tfind_calls V1 HB.out HS.out r2
   rw [A1.out,A2.out,A3.out] at HF
   have HF:=hid HF
   clear V1 HW
   have hq0:(0:Int) <= (q:Int):=by omega
   go_wp2_with fail
   refine HF.out.mono ?_
   rintro e w2 ⟨rfl,V2⟩
   have HV:=hid V2
   clear V2 HF
   go_wp2_with fail
   go_ret3
   exact ⟨rfl,HV.out.keep (loc_star (loc_blk _ _ _) HB.out) ((Fr.refl _ _).alloc _)⟩
 ·have hres:fE = r3:=by rw [hfE];unfold freshE;rw [if_pos h0]
  have e0:(r3 == 0) = false:=by simpa using h0
  subst hres
  clear h hB hI hok hfE h0
  go_enter Tryz.func45,Tryz.ntmps45
  go_wp2_with fail
  refine HW.out.mono ?_
  rintro e w1 ⟨rfl,V1⟩
  have HV:=hid V1
  clear V1 HW
  go_wp2_with fail
  go_ret3
  exact ⟨rfl,HV.out⟩
end
end
section
open Go.RowKit Go.Shelf
attribute [local go_sem] Oper.semAt_some
def NoF (s:ByteArray) (k:Nat):Prop:=∀ j,j < k -> 0 <= entI s j
def HitF (s:ByteArray) (k:Nat):Prop:=entI s k < 0
section
variable {S0:Nat -> Prop} {w0 w w':World} {t v b d m c bt bn:Nat} {p n:Int} {A A0:Nat -> Node} {T:Tr} {B R C C':Asr}
theorem EA.start2 (h:VT c p S0 w0 v b d m A A0 (Star (trA t b v T) B) w) (hB:Loc B) (y1:Nat) (y2:ByteArray) :
 Lv S0 w0 (EA c p v b d m A A0 t (w.heap.size + 1 + 1) (w.heap.size + 1 + 1 + 1) T n (Star (blkA (w.heap.size + 1) tInt [.int .i64 0]) (Star (blkA w.heap.size tEnt [.int .i64 (y1:Nat),.string y2]) B)))
  ((((w.alloc (.cells #[.int .i64 (y1:Nat),.string y2] tEnt)).alloc (.cells #[.int .i64 0] tInt)).alloc (.cells #[.pointer (some ⟨t,0,none⟩)] tPTree)).alloc (.cells #[.int .i64 n] tInt)):=by
 have l0:Loc (Star (trA t b v T) B):=loc_star (loc_blk _ _ _) hB
 have b1:=h.box l0 tEnt [.int .i64 (y1:Nat),.string y2]
 have b2:=b1.box (loc_star (loc_blk _ _ _) l0) tInt [.int .i64 0]
 have b4:=b2.box (loc_star (loc_blk _ _ _) (loc_star (loc_blk _ _ _) l0)) tPTree [.pointer (some ⟨t,0,none⟩)]
 have b5:=b4.box (loc_star (loc_blk _ _ _) (loc_star (loc_blk _ _ _) (loc_star (loc_blk _ _ _) l0))) tInt [.int .i64 n]
 simp only [World.size_alloc] at b2 b4 b5
 exact b5.asr.map fun _ h=>star_right h fun _ h=>star_right (star_flip (star_right h fun _ h=>star_flip (star_right h fun _ h=>star_flip (star_right h fun _ h=>star_flip h)))) fun _ h=>star_flip h
theorem EA.fin5 {D:Nat} (h:Lv S0 w0 (Star (defA D) (EA c p v b d m A A0 t bt bn T n (Star C (Star C' B)))) w) (hC:Loc C) (hC':Loc C') (hB:Loc B):VT c p S0 w0 v b d m A A0 (Star (trA t b v T) B) (w.putObj D (.deferred none)) :=
 (EA.fin h hC (loc_star hC' hB)).map fun _ _ h=>star_less h
theorem tadd_calls {s:ByteArray} (h:VT c p S0 w0 v b d m A A0 (Star (trA t b v T) B) w) (hc:c <= 16) (hB:Loc B) (hs:areadB A n 0 2368 = s) (y1:Nat) (y2:ByteArray) (hy1:y1 + 1 < 65536) (hy2:y2.size <= 14) :
 Calls Tryz.prog 50 #[.pointer (some ⟨t,0,none⟩),.int .i64 n,.agg #[.int .i64 (y1:Nat),.string y2]] w fun e w' =>
  e = .returned (.int .i64 (if awriteE m A false n (16 * freeB s (s.size / 16):Nat) (txtB (y1 + 1) y2) = 15 then 4 else awriteE m A false n (16 * freeB s (s.size / 16):Nat) (txtB (y1 + 1) y2))) /\
  VT (c + 7) p S0 w0 v b d m (awrite m A false n (16 * freeB s (s.size / 16):Nat) (txtB (y1 + 1) y2)) A0 (Star (trA t b v T) B) w':=by
 obtain ⟨qf,hqf⟩:∃ qf:Nat,qf = 16 * freeB s (s.size / 16):=⟨_,rfl⟩
 obtain ⟨tx,htx⟩:∃ tx,tx = txtB (y1 + 1) y2:=⟨_,rfl⟩
 rw [<- hqf,<- htx]
 obtain ⟨gE,hgE2⟩:∃ gE,gE = awriteE m A false n qf tx:=⟨_,rfl⟩
 obtain ⟨A',hA'⟩:∃ A',A' = awrite m A false n qf tx:=⟨_,rfl⟩
 rw [<- hgE2,<- hA']
 obtain ⟨res,hres⟩:∃ res:Int,res = if gE = 15 then 4 else gE:=⟨_,rfl⟩
 rw [<- hres]
 have HQF:=hid hqf
 have HTX2:=hid htx
 have HGE2:=hid hgE2
 have HAA:=hid hA'
 have HRES:=hid hres
 clear hqf htx hgE2 hA' hres
 refine (callsIn_wide (n:=3)).1 ?_
 have h2368:s.size <= 2368:=by rw [<- hs];exact areadB_size A n
 refine callsIn_of_wp_marks Tryz.func50 rfl trivial ?_ rfl
 simp only [Tryz.ntmps50,List.size_toArray,List.length_cons,List.length_nil,Nat.reduceAdd,Nat.reduceSub,Array.replicate_succ,Array.replicate_zero,List.push_toArray,List.append_toArray,List.nil_append,List.cons_append]
 have HS:=EA.start2 (n:=n) h hB y1 y2
 have HS:=hid HS
 have HB:=hid hB
 have HRS:=hid hs
 have HZ:=hid h2368
 have HC:=hid hc
 have HY1:=hid hy1
 have HY2:=hid hy2
 clear h hB hs h2368 hc hy1 hy2
 rw [wpIn_wide]
 go_wp2_with fail
 refine (tentries_calls _ _ _).mono ?_
 rintro e w1 ⟨rfl,rfl⟩
 go_wp2_with fail
 generalize hWW:((((w.alloc (.cells #[.int .i64 (y1:Nat),.string y2] tEnt)).alloc (.cells #[.int .i64 0] tInt)).alloc (.cells #[.pointer (some ⟨t,0,none⟩)] tPTree)).alloc (.cells #[.int .i64 n] tInt)) = W0
 obtain ⟨r,hr⟩:∃ r,r = w.heap.size:=⟨_,rfl⟩
 have HW0:Hid (Lv S0 w0 (EA c p v b d m A A0 t (r + 1 + 1) (r + 1 + 1 + 1) T n (Star (blkA (r + 1) tInt [.int .i64 (16 * 0:Nat)]) (Star (blkA r tEnt [.int .i64 (y1:Nat),.string y2]) (Wth (NoF s 0) B)))) W0):=by
  rw [hr,<- hWW]
  exact hid (HS.out.map fun _ h=>star_right h fun _ h=>star_right h fun _ h=>star_right h fun _ h=>star_right h fun _ h=>star_right h fun _ h=>star_right h fun _ h=>⟨fun _ h=>absurd h (Nat.not_lt_zero _),h⟩)
 rw [<- hr]
 clear HS hWW hr
 rw [<- wpIn_wide (n:=3)]
 refine wpIn_range_lvx (S0:=S0) (w0:=w0) (F:=Fence.wide) (n:=3) rfl (by omega) (gf:=115) (lb:=#[.pointer (some ⟨r + 1 + 1,0,none⟩),.pointer (some ⟨r + 1 + 1 + 1,0,none⟩)]) rfl trivial (enters_of Tryz.func115 (by kernel_rfl) rfl)
  (fun k=>EA c p v b d m A A0 t (r + 1 + 1) (r + 1 + 1 + 1) T n (Star (blkA (r + 1) tInt [.int .i64 (16 * k:Nat)]) (Star (blkA r tEnt [.int .i64 (y1:Nat),.string y2]) (Wth (NoF s k) B))))
  (fun x k=>Wth (x = .exit 0 /\ HitF s k /\ NoF s k) (EA c p v b d m A A0 t (r + 1 + 1) (r + 1 + 1 + 1) T n (Star (blkA (r + 1) tInt [.int .i64 (16 * k:Nat)]) (Star (blkA r tEnt [.int .i64 (y1:Nat),.string y2]) B))))
  (fun _=>loc_EA (loc_star (loc_blk _ _ _) (loc_star (loc_blk _ _ _) (loc_wth _ HB.out)))) (fun _ _=>loc_wth _ (loc_EA (loc_star (loc_blk _ _ _) (loc_star (loc_blk _ _ _) HB.out)))) (s.size / 16)
  (fun k=>#[.int .i64 (16 * k:Nat),.agg #[.int .i64 (entI s k),.string (entS s k)]]) (fun _=>rfl)
  (fun x k=>{ tmps:=#[.pointer (some ⟨t,0,none⟩),.int .i64 n,.agg #[.int .i64 (y1:Nat),.string y2],undef,undef,.pointer (some ⟨r,0,none⟩),.int .i64 0,.pointer (some ⟨r + 1,0,none⟩),.int .i64 (16 * k:Nat),.pointer (some ⟨x,0,none⟩),undef,.pointer (some ⟨t,0,none⟩),.int .i64 n,.func (.func 115) #[] #[.pointer (some ⟨r + 1 + 1,0,none⟩),.pointer (some ⟨r + 1 + 1 + 1,0,none⟩)],.int .i64 (16 * k:Nat),.agg #[.int .i64 (entI s k),.string (entS s k)],undef,undef,undef,undef,undef,undef,undef,undef,undef,undef,undef,undef,undef,undef,undef,undef,undef,undef],defers:=[] })
  (fun x k=>Star (blkA x tEnt [.int .i64 (entI s k),.string (entS s k)]) (EA c p v b d m A A0 t (r + 1 + 1) (r + 1 + 1 + 1) T n (Star (blkA (r + 1) tInt [.int .i64 (16 * k:Nat)]) (Star (blkA r tEnt [.int .i64 (y1:Nat),.string y2]) (Wth (NoF s k) B)))))
  (fun _ _=>loc_star (loc_blk _ _ _) (loc_EA (loc_star (loc_blk _ _ _) (loc_star (loc_blk _ _ _) (loc_wth _ HB.out))))) HW0.out ?seq ?assign ?body ?done ?stop
 case seq =>
  intro l R St W hR hY hW
  have h9:=tents1_calls (S0:=S0) (w0:=w0) (c:=c) (p:=p) (v:=v) (b:=b) (d:=d) (m:=m) (A0:=A0) (t:=t) (T:=T) (bt:=r + 1 + 1) (bn:=r + 1 + 1 + 1) (N:=s.size / 16) HRS.out rfl HZ.out (fun k=>(Star (blkA (r + 1) tInt [.int .i64 (16 * k:Nat)]) (Star (blkA r tEnt [.int .i64 (y1:Nat),.string y2]) (Wth (NoF s k) B)))) (fun _=>loc_star (loc_blk _ _ _) (loc_star (loc_blk _ _ _) (loc_wth _ HB.out))) l R St W hR
  exact h9 hY hW
 case assign =>
  intro l R k W K hR hk hl hK
  have HKK:=hid hK
  have HLL:=hid hl
  have HRR:=hid hR
  clear hK hl hk hR
  gi_wp2
  have hL:=Lv.box HLL.out (loc_star HRR.out (loc_EA (loc_star (loc_blk _ _ _) (loc_star (loc_blk _ _ _) (loc_wth _ HB.out))))) tEnt [.int .i64 (entI s k),.string (entS s k)]
  obtain ⟨x,hx⟩:∃ x,x = W.heap.size:=⟨_,rfl⟩
  rw [<- hx] at hL ⊢
  exact HKK.out x _ (hL.map fun _ h=>star_flip h)
 case body =>
  intro l R k x W hR hk hl
  have hn1:¬ x = r + 1:=EA.ne hl
  have hn3:¬ r + 1 = x:=fun h=>hn1 h.symm
  have hx:=EA.box hl
  have hl2:=EA.less hl
  have hri:=EA.blk hl2
  have hk0:NoF s k:=by
   obtain ⟨_,hS⟩:=EA.rest hl2
   obtain ⟨_,_,_,⟨_,_,_,h1,_⟩,_⟩:=hS
   exact h1.1
  have q0:=hx.cell (j:=0) rfl
  have i0:=hri.cell (j:=0) rfl
  have fi:=hri.free 0
  have hw:IntKind.i64.wrap (16 * (k:Int) + 16) = 16 * (k:Int) + 16:=by have:=HZ.out;rw [IntKind.wrap_i64] <;> omega
  have HL2:=hid hl2
  have HK0:=hid hk0
  have HRR:=hid hR
  obtain ⟨eI,heI⟩:∃ eI,eI = entI s k:=⟨_,rfl⟩
  rw [<- heI] at q0 ⊢
  have HEI:=hid heI
  clear hx hl hl2 hri hk0 hR heI
  by_cases hlt:eI < 0
  ·have HH:=hid (show HitF s k from by unfold HitF;rw [<- HEI.out];exact hlt)
   have HE:=hid (EA.map (EA.turn (EA.turn HL2.out HRR.out (loc_star (loc_blk _ _ _) (loc_wth _ HB.out)) (turn_blk 0 (.int .i64 (16 * (k:Int) + 16)))) HRR.out (loc_star (loc_blk _ _ _) (loc_wth _ HB.out)) (turn_blk 0 (.int .i64 (16 * (k:Int))))) fun _ h=>star_right h fun _ h=>star_right h fun _ h=>h.2)
   gi_wp2
   refine .inr ⟨.exit 0,rfl,HE.out.map fun _ h=>star_right h fun _ h=>⟨⟨rfl,HH.out,HK0.out⟩,?_⟩⟩
   rw [show (((16 * k:Nat):Int)) = 16 * (k:Int) by omega]
   exact h
  ·have HH:=hid (show NoF s (k + 1) from fun j hj=>by
    by_cases hjk:j < k
    ·exact HK0.out j hjk
    ·obtain rfl:j = k:=by omega
     rw [<- HEI.out];omega)
   have HE:=hid (EA.map (B':=Star (blkA (r + 1) tInt [.int .i64 (16 * (k:Int) + 16)]) (Star (blkA r tEnt [.int .i64 (y1:Nat),.string y2]) (Wth (NoF s (k + 1)) B))) (EA.turn HL2.out HRR.out (loc_star (loc_blk _ _ _) (loc_wth _ HB.out)) (turn_blk 0 (.int .i64 (16 * (k:Int) + 16)))) fun _ h=>star_right h fun _ h=>star_right h fun _ h=>⟨HH.out,h.2⟩)
   gi_wp2
   refine .inl ?_
   rw [show 16 * ((k:Int) + 1) = 16 * (k:Int) + 16 by omega]
   exact HE.out
 case stop =>
  intro D c' k W hk hl
  obtain ⟨_,hp⟩:=hl.second
  obtain ⟨⟨rfl,hH,hN⟩,_⟩:=hp
  have HE:=hid (hl.map fun _ h=>star_right h fun _ h=>h.2)
  have HK:=hid (free_at hk hH hN)
  clear hl hk hH hN
  obtain ⟨q,hq⟩:∃ q:Nat,q = 16 * k:=⟨_,rfl⟩
  have HQ:Hid (Lv S0 w0 (Star (defA D) (EA c p v b d m A A0 t (r + 1 + 1) (r + 1 + 1 + 1) T n (Star (blkA (r + 1) tInt [.int .i64 q]) (Star (blkA r tEnt [.int .i64 (y1:Nat),.string y2]) B)))) W):=hid (by rw [hq];exact HE.out)
  have HQ16:Hid (q = qf):=hid (by rw [HQF.out,HK.out,hq])
  clear HE hq HK
  have lAt:Loc (Star (blkA (r + 1) tInt [.int .i64 q]) (Star (blkA r tEnt [.int .i64 (y1:Nat),.string y2]) B)):=loc_star (loc_blk _ _ _) (loc_star (loc_blk _ _ _) HB.out)
  have lD:=loc_star (loc_def D) (loc_EB (t:=t) (b:=b) (v:=v) (bt:=r + 1 + 1) (bn:=r + 1 + 1 + 1) (T:=T) (n:=n) lAt)
  have V0:=(VT.of2 HQ.out).keep lD (Fr.refl _ _).drew
  have HV0:=hid V0
  have HLD:=hid lD
  have hcell:∀ (c':Nat) (A':Nat -> Node) (W':World),VT c' p S0 w0 v b d m A' A0 (Star (defA D) (EB t b v (r + 1 + 1) (r + 1 + 1 + 1) T n (Star (blkA (r + 1) tInt [.int .i64 q]) (Star (blkA r tEnt [.int .i64 (y1:Nat),.string y2]) B)))) W' ->
   W'.cell? ⟨t,1,none⟩ = some (.pointer (some ⟨v,0,none⟩)) /\ W'.cell? ⟨r + 1,0,none⟩ = some (.int .i64 q) /\ W'.cell? ⟨r,0,none⟩ = some (.int .i64 (y1:Nat)) /\ W'.cell? ⟨r,1,none⟩ = some (.string y2):=fun _ _ _ hv =>
   ⟨(EA.cells hv.asr2).1.cell (j:=1) rfl,(EA.blk hv.asr2).cell (j:=0) rfl,(EA.blk (EA.swap hv.asr2)).cell (j:=0) rfl,(EA.blk (EA.swap hv.asr2)).cell (j:=1) rfl⟩
  obtain ⟨c1,c2,c3,c4⟩:=hcell _ _ _ V0
  have HCE:=hid hcell
  have HTX:Hid (∀ W:World,Calls Tryz.prog 49 #[.agg #[.int .i64 (y1:Nat),.string y2]] W fun e w'=>e = .returned (.string tx) /\ Fr Nob W w'):=hid fun W=>by rw [HTX2.out];exact ttext_calls (y1:Nat) (y1 + 1) (by omega) HY1.out y2 HY2.out W
  have HTS:Hid (q % 64 + tx.size <= 64):=hid (by rw [HTX2.out,txtB_size HY2.out,HQ16.out,HQF.out];omega)
  have hgE:=fun W (hW:VT c p S0 w0 v b d m A A0 (Star (defA D) (EB t b v (r + 1 + 1) (r + 1 + 1 + 1) T n (Star (blkA (r + 1) tInt [.int .i64 q]) (Star (blkA r tEnt [.int .i64 (y1:Nat),.string y2]) B)))) W)=>t_patch hW HLD.out HC.out n q tx HTS.out
  have hg1:awriteE m A false n q tx = gE:=by rw [HQ16.out];exact HGE2.out.symm
  have hg2:awrite m A false n q tx = A':=by rw [HQ16.out];exact HAA.out.symm
  rw [hg1,hg2] at hgE
  have HW:=hid hgE
  clear lAt lD V0 hcell hgE hg1 hg2
  gi_wp2
  go_wp2_with fail
  go_region_held3 (fun w'=>w'.cell? ⟨t,1,none⟩ = some (.pointer (some ⟨v,0,none⟩)) /\ w'.cell? ⟨r + 1,0,none⟩ = some (.int .i64 q) /\ w'.cell? ⟨r,0,none⟩ = some (.int .i64 (y1:Nat)) /\ w'.cell? ⟨r,1,none⟩ = some (.string y2))
   (first | go_keep | exact ⟨c1,c2,c3,c4⟩ | exact ⟨c15,c25,c35,c45⟩ | exact ⟨c16,c26,c36,c46⟩)
   (first
    | (go_at_call 49;refine (HTX.out _).mono ?_;rintro e w5 ⟨rfl,hf5⟩;have V5:=HV0.out.keep HLD.out hf5;obtain ⟨c15,c25,c35,c45⟩:=HCE.out _ _ _ V5;have HV5:=hid V5;clear V5 hf5)
    | (go_at_call 48;refine (HW.out _ HV5.out).mono ?_;rintro e w6 ⟨rfl,V6⟩;obtain ⟨c16,c26,c36,c46⟩:=HCE.out _ _ _ V6;have HV6:=hid V6;clear V6))
  have HFIN:=hid (EA.fin5 HV6.out.asr2 (loc_blk _ _ _) (loc_blk _ _ _) HB.out)
  have HDEF:=hid HV6.out.asr2.def_at
  clear c1 c2 c3 c4 c15 c25 c35 c45 c16 c26 c36 c46
  by_cases h15:gE = 15
  ·have b15:(gE == 15) = true:=by simpa using h15
   go_wp2_with fail
   refine ⟨by simp,.inl ⟨_,_,rfl,run_takeDeferred HDEF.out,?_⟩⟩
   refine ⟨.int .i64 4,by simp [results,Tryz.f50],?_,?_⟩
   ·rw [HRES.out,if_pos h15]
   ·exact HFIN.out
  ·have b15:(gE == 15) = false:=by simpa using h15
   go_wp2_with fail
   refine ⟨by simp,.inl ⟨_,_,rfl,run_takeDeferred HDEF.out,?_⟩⟩
   refine ⟨.int .i64 gE,by simp [results,Tryz.f50],?_,?_⟩
   ·rw [HRES.out,if_neg h15]
   ·exact HFIN.out
 case done =>
  intro D W hl
  have hk0:NoF s (s.size / 16):=by
   obtain ⟨_,hS⟩:=EA.rest hl
   obtain ⟨_,_,_,⟨_,_,_,h1,_⟩,_⟩:=hS
   exact h1.1
  have HE:=hid (EA.map hl fun _ h=>star_right h fun _ h=>star_right h fun _ h=>h.2)
  have HK:=hid (free_none hk0)
  clear hl hk0
  obtain ⟨q,hq⟩:∃ q:Nat,q = 16 * (s.size / 16):=⟨_,rfl⟩
  have HQ:Hid (Lv S0 w0 (Star (defA D) (EA c p v b d m A A0 t (r + 1 + 1) (r + 1 + 1 + 1) T n (Star (blkA (r + 1) tInt [.int .i64 q]) (Star (blkA r tEnt [.int .i64 (y1:Nat),.string y2]) B)))) W):=hid (by rw [hq];exact HE.out)
  have HQ16:Hid (q = qf):=hid (by rw [HQF.out,HK.out,hq])
  clear HE hq HK
  have lAt:Loc (Star (blkA (r + 1) tInt [.int .i64 q]) (Star (blkA r tEnt [.int .i64 (y1:Nat),.string y2]) B)):=loc_star (loc_blk _ _ _) (loc_star (loc_blk _ _ _) HB.out)
  have lD:=loc_star (loc_def D) (loc_EB (t:=t) (b:=b) (v:=v) (bt:=r + 1 + 1) (bn:=r + 1 + 1 + 1) (T:=T) (n:=n) lAt)
  have V0:=(VT.of2 HQ.out).keep lD (Fr.refl _ _).drew
  have HV0:=hid V0
  have HLD:=hid lD
  have hcell:∀ (c':Nat) (A':Nat -> Node) (W':World),VT c' p S0 w0 v b d m A' A0 (Star (defA D) (EB t b v (r + 1 + 1) (r + 1 + 1 + 1) T n (Star (blkA (r + 1) tInt [.int .i64 q]) (Star (blkA r tEnt [.int .i64 (y1:Nat),.string y2]) B)))) W' ->
   W'.cell? ⟨t,1,none⟩ = some (.pointer (some ⟨v,0,none⟩)) /\ W'.cell? ⟨r + 1,0,none⟩ = some (.int .i64 q) /\ W'.cell? ⟨r,0,none⟩ = some (.int .i64 (y1:Nat)) /\ W'.cell? ⟨r,1,none⟩ = some (.string y2):=fun _ _ _ hv =>
   ⟨(EA.cells hv.asr2).1.cell (j:=1) rfl,(EA.blk hv.asr2).cell (j:=0) rfl,(EA.blk (EA.swap hv.asr2)).cell (j:=0) rfl,(EA.blk (EA.swap hv.asr2)).cell (j:=1) rfl⟩
  obtain ⟨c1,c2,c3,c4⟩:=hcell _ _ _ V0
  have HCE:=hid hcell
  have HTX:Hid (∀ W:World,Calls Tryz.prog 49 #[.agg #[.int .i64 (y1:Nat),.string y2]] W fun e w'=>e = .returned (.string tx) /\ Fr Nob W w'):=hid fun W=>by rw [HTX2.out];exact ttext_calls (y1:Nat) (y1 + 1) (by omega) HY1.out y2 HY2.out W
  have HTS:Hid (q % 64 + tx.size <= 64):=hid (by rw [HTX2.out,txtB_size HY2.out,HQ16.out,HQF.out];omega)
  have hgE:=fun W (hW:VT c p S0 w0 v b d m A A0 (Star (defA D) (EB t b v (r + 1 + 1) (r + 1 + 1 + 1) T n (Star (blkA (r + 1) tInt [.int .i64 q]) (Star (blkA r tEnt [.int .i64 (y1:Nat),.string y2]) B)))) W)=>t_patch hW HLD.out HC.out n q tx HTS.out
  have hg1:awriteE m A false n q tx = gE:=by rw [HQ16.out];exact HGE2.out.symm
  have hg2:awrite m A false n q tx = A':=by rw [HQ16.out];exact HAA.out.symm
  rw [hg1,hg2] at hgE
  have HW:=hid hgE
  clear lAt lD V0 hcell hgE hg1 hg2
  go_wp2_with fail
  go_region_held3 (fun w'=>w'.cell? ⟨t,1,none⟩ = some (.pointer (some ⟨v,0,none⟩)) /\ w'.cell? ⟨r + 1,0,none⟩ = some (.int .i64 q) /\ w'.cell? ⟨r,0,none⟩ = some (.int .i64 (y1:Nat)) /\ w'.cell? ⟨r,1,none⟩ = some (.string y2))
   (first | go_keep | exact ⟨c1,c2,c3,c4⟩ | exact ⟨c15,c25,c35,c45⟩ | exact ⟨c16,c26,c36,c46⟩)
   (first
    | (go_at_call 49;refine (HTX.out _).mono ?_;rintro e w5 ⟨rfl,hf5⟩;have V5:=HV0.out.keep HLD.out hf5;obtain ⟨c15,c25,c35,c45⟩:=HCE.out _ _ _ V5;have HV5:=hid V5;clear V5 hf5)
    | (go_at_call 48;refine (HW.out _ HV5.out).mono ?_;rintro e w6 ⟨rfl,V6⟩;obtain ⟨c16,c26,c36,c46⟩:=HCE.out _ _ _ V6;have HV6:=hid V6;clear V6))
  have HFIN:=hid (EA.fin5 HV6.out.asr2 (loc_blk _ _ _) (loc_blk _ _ _) HB.out)
  have HDEF:=hid HV6.out.asr2.def_at
  clear c1 c2 c3 c4 c15 c25 c35 c45 c16 c26 c36 c46
  by_cases h15:gE = 15
  ·have b15:(gE == 15) = true:=by simpa using h15
   go_wp2_with fail
   refine ⟨by simp,.inl ⟨_,_,rfl,run_takeDeferred HDEF.out,?_⟩⟩
   refine ⟨.int .i64 4,by simp [results,Tryz.f50],?_,?_⟩
   ·rw [HRES.out,if_pos h15]
   ·exact HFIN.out
  ·have b15:(gE == 15) = false:=by simpa using h15
   go_wp2_with fail
   refine ⟨by simp,.inl ⟨_,_,rfl,run_takeDeferred HDEF.out,?_⟩⟩
   refine ⟨.int .i64 gE,by simp [results,Tryz.f50],?_,?_⟩
   ·rw [HRES.out,if_neg h15]
   ·exact HFIN.out
end
end
section
open Go.RowKit Go.Shelf
def Made (p:Int) (S0:Nat -> Prop) (w0:World) (t v b d m:Nat) (T:Tr) (mn:Nat) (r:Int × Tr) (B:Asr) (e:Ending) (w':World):Prop :=
 (e = .returned (.tuple #[.int .i64 mn,.int .i64 r.1]) /\ ∃ p',(p = -1 -> p' = -1) /\ TV p' S0 w0 t v b d m r.2 B w') \/
 (p ≠ -1 /\ e = .returned (.tuple #[.int .i64 0,.int .i64 7]) /\ r.1 = 0 /\ DT S0 w0 d m (volT r.2) (volT T) B w')
section
variable {S0:Nat -> Prop} {w0 w w':World} {t v b d m c bt bn:Nat} {p n:Int} {A A0:Nat -> Node} {T U:Tr} {B R C C':Asr}
theorem add_vol {k:Nat} (h:DirOk U k) (hu:(U k).up < 32) {s:ByteArray} (hs:areadB (volT U) k 0 2368 = s) (y:Nat × ByteArray) :
 awriteE m (volT U) false k (16 * freeB s (s.size / 16):Nat) (txtB (y.1 + 1) y.2) = addE m U k y:=by
 have h1:=dir_read h
 have h2:=dir_size h
 rw [hs] at h1 h2
 rw [h2,Nat.mul_div_cancel_left _ (by omega),free_dir h1 h.slots hu]
 rfl
theorem make_is {from_ kind:Int} {path:ByteArray} {k:Nat} (hk:kind = 1 \/ kind = 2) (hf:freshE T (lastT T from_ path) = 0) (h1:firstT T = some k) :
 makeT m T from_ path kind = if fitsT m (makeU T kind.toNat (lastT T from_ path).1 k (lastT T from_ path).2.1) then (0,makeU T kind.toNat (lastT T from_ path).1 k (lastT T from_ path).2.1) else (4,T):=by
 unfold freshE at hf
 split at hf
 ·next h=>exact absurd hf h
 ·next h =>
  split at hf
  ·exact absurd hf (by decide)
  ·next h2 =>
   unfold makeT
   rw [if_neg (by omega)]
   simp only [if_neg h,if_neg h2,h1]
theorem make_full {from_ kind:Int} {path:ByteArray} (hk:kind = 1 \/ kind = 2) (hf:freshE T (lastT T from_ path) = 0) (h1:firstT T = none):makeT m T from_ path kind = (4,T):=by
 unfold freshE at hf
 split at hf
 ·next h=>exact absurd hf h
 ·next h =>
  split at hf
  ·exact absurd hf (by decide)
  ·next h2 =>
   unfold makeT
   rw [if_neg (by omega)]
   simp only [if_neg h,if_neg h2,h1]
theorem make_fresh {from_ kind:Int} {path:ByteArray} (hk:kind = 1 \/ kind = 2) (hf:freshE T (lastT T from_ path) ≠ 0):makeT m T from_ path kind = (freshE T (lastT T from_ path),T):=by
 unfold makeT
 rw [if_neg (by omega)]
 unfold freshE at hf ⊢
 by_cases h:(lastT T from_ path).2.2 ≠ 0
 ·simp only [if_pos h]
 ·simp only [if_neg h] at hf ⊢
  by_cases h2:(entryT (T (lastT T from_ path).1) (lastT T from_ path).2.1).isSome = true
  ·simp only [if_pos h2]
  ·rw [if_neg h2] at hf;exact absurd rfl hf
theorem fresh_ok (hI:TInv T) {from_:Int} {path:ByteArray} (hf:freshE T (lastT T from_ path) = 0):(lastT T from_ path).1 < 32 /\ (T (lastT T from_ path).1).kind = 2 /\ namedT (lastT T from_ path).2.1 = true /\ entryT (T (lastT T from_ path).1) (lastT T from_ path).2.1 = none:=by
 unfold freshE at hf
 split at hf
 ·next h=>exact absurd hf h
 ·next h =>
  split at hf
  ·exact absurd hf (by decide)
  ·next h2 =>
   obtain ⟨a,b,c⟩:=lastT_ok hI (Classical.not_not.1 h)
   exact ⟨a,b,c,by simpa using h2⟩
theorem held_make (T:Tr) {kind dir k:Nat} {s:ByteArray} (h0:T k = TN.free) (hdk:dir ≠ k) (j:Nat):(makeU T kind dir k s j).held = (T j).held:=by
 unfold makeU putT
 by_cases hj:j = dir
 ·subst hj
  rw [setT_same,setT_other T _ hdk]
 ·rw [setT_other _ _ hj]
  by_cases hjk:j = k
  ·subst hjk;rw [setT_same,h0];rfl
  ·rw [setT_other T _ hjk]
theorem new_vol {kind:Int} {k:Nat} (hk:kind = 1 \/ kind = 2) (hf:firstT T = some k) :
 anewE (volT T) false kind = 0 /\ anewN (volT T) = k /\ anew (volT T) false kind = setA (volT T) k ⟨kind.toNat,0,[]⟩ /\ alinkE (setA (volT T) k ⟨kind.toNat,0,[]⟩) false k 1 = 0 /\ alink (setA (volT T) k ⟨kind.toNat,0,[]⟩) false k 1 = setA (volT T) k ⟨kind.toNat,1,[]⟩:=by
 obtain ⟨hk32,hk0⟩:=first_some hf
 have ha:afirst (volT T) = some k:=by rw [first_vol];exact hf
 have h1:anewE (volT T) false kind = 0:=by
  unfold anewE
  rw [if_neg (by omega),if_neg (by decide),ha,if_neg (fun h=>by cases h)]
 have h2:anewN (volT T) = k:=by unfold anewN;rw [ha];rfl
 have h3:anew (volT T) false kind = setA (volT T) k ⟨kind.toNat,0,[]⟩:=by unfold anew;rw [if_pos h1,h2]
 have hn:setA (volT T) k ⟨kind.toNat,0,[]⟩ k = ⟨kind.toNat,0,[]⟩:=by unfold setA;rw [if_pos rfl]
 have h5:afindE (setA (volT T) k ⟨kind.toNat,0,[]⟩) k = 0:=by
  unfold afindE
  rw [show ((k:Int)).toNat = k from rfl,hn,if_neg (by omega:¬ ((k:Int) < 0 \/ 32 <= (k:Int)))]
  exact if_neg (show ¬ kind.toNat = 0 by omega)
 have h4:alinkE (setA (volT T) k ⟨kind.toNat,0,[]⟩) false k 1 = 0:=by
  unfold alinkE
  rw [h5,if_neg (fun h=>h rfl),show ((k:Int)).toNat = k from rfl,hn]
  rw [if_neg (show ¬ ((1:Int) < -255 \/ 255 < (1:Int) \/ ((0:Nat):Int) + 1 < 0 \/ 255 < ((0:Nat):Int) + 1) by omega),if_neg (by decide)]
 refine ⟨h1,h2,h3,h4,?_⟩
 unfold alink
 rw [if_pos h4,show ((k:Int)).toNat = k from rfl,hn,setA_twice]
 rfl
theorem new_full {kind:Int} (hk:kind = 1 \/ kind = 2) (hf:firstT T = none):anewE (volT T) false kind = 4:=by
 have ha:afirst (volT T) = none:=by rw [first_vol];exact hf
 unfold anewE
 rw [if_neg (by omega),if_neg (by decide),ha]
 rfl
theorem add_go {k:Nat} (h:DirOk U k) (hu:(U k).up < 32) {s:ByteArray} (hs:areadB (volT U) k 0 2368 = s) {y:Nat × ByteArray} (hy:SlotOk (some y)) :
 awrite m (volT U) false k (16 * freeB s (s.size / 16):Nat) (txtB (y.1 + 1) y.2) = if addE m U k y = 0 then volT (putT U k y) else volT U:=by
 have h1:=dir_read h
 have h2:=dir_size h
 rw [hs] at h1 h2
 rw [h2,Nat.mul_div_cancel_left _ (by omega),free_dir h1 h.slots hu]
 exact add_goes h hy
theorem tMake_calls (h:TV p S0 w0 t v b d m T B w) (hB:Loc B) (hI:TInv T) (from_ kind:Int) (path:ByteArray) :
 Calls Tryz.prog 15 #[.pointer (some ⟨t,0,none⟩),.int .i64 from_,.string path,.int .i64 kind] w (Made p S0 w0 t v b d m T (makeN m T from_ path kind) (makeT m T from_ path kind) B):=by
 have HA:=talive_calls h hB
 obtain ⟨mk,hmk⟩:∃ mk,mk = makeT m T from_ path kind:=⟨_,rfl⟩
 obtain ⟨mn,hmn⟩:∃ mn,mn = makeN m T from_ path kind:=⟨_,rfl⟩
 have hmn0:mk.1 ≠ 0 -> mn = 0:=fun h=>by rw [hmn];unfold makeN;rw [if_neg (by rw [<- hmk];exact h)]
 have hmnk:∀ k,firstT T = some k -> mk.1 = 0 -> mn = k:=fun k hf h=>by rw [hmn];unfold makeN;rw [if_pos (by rw [<- hmk];exact h),hf];rfl
 rw [<- hmk,<- hmn]
 clear hmn
 have hsum:=h.sum
 have HA:=hid HA
 have HB:=hid hB
 have HI:=hid hI
 have HMN0:=hid hmn0
 have HMNK:=hid hmnk
 have HSUM:=hid hsum
 clear h hB hI hmn0 hmnk hsum
 go_enter Tryz.func15,Tryz.ntmps15
 go_wp2_with fail
 refine HA.out.mono ?_
 rintro e w1 ⟨rfl,V1⟩
 have HV1:=hid V1
 clear V1 HA
 by_cases hk12:kind ≠ 1 /\ kind ≠ 2
 ·have b1:(kind != 1) = true:=by simpa using hk12.1
  have b2:(kind != 2) = true:=by simpa using hk12.2
  have hm1:mk = (1,T):=by rw [hmk];unfold makeT;rw [if_pos hk12]
  have hn1:mn = 0:=HMN0.out (by rw [hm1];exact fun h=>by cases h)
  subst hm1
  subst hn1
  clear hk12 hmk
  go_wp2_with fail
  go_ret2
  exact .inl ⟨rfl,p,id,HV1.out⟩
 have hkk:kind = 1 \/ kind = 2:=by omega
 have HKK:=hid hkk
 have HF:=hid (tfresh_calls HV1.out HB.out HI.out from_ path)
 have HFO:=hid (fresh_ok HI.out (from_:=from_) (path:=path))
 have HMKK:=hid hmk
 obtain ⟨kn,hkn⟩:∃ kn:Nat,kind = kn:=⟨kind.toNat,by omega⟩
 subst hkn
 have hpick:((kn:Int) != 1 && (kn:Int) != 2) = false:=by
  rcases hkk with h | h
  ·rw [h];rfl
  ·rw [h];rfl
 clear hk12 hmk hkk
 obtain ⟨r1,hr1⟩:∃ r1,r1 = (lastT T from_ path).1:=⟨_,rfl⟩
 obtain ⟨r2,hr2⟩:∃ r2,r2 = (lastT T from_ path).2.1:=⟨_,rfl⟩
 obtain ⟨fE,hfE⟩:∃ fE,fE = freshE T (lastT T from_ path):=⟨_,rfl⟩
 have HF2:Hid (Calls Tryz.prog 45 #[.pointer (some ⟨t,0,none⟩),.int .i64 from_,.string path] w1 fun e w'=>e = .returned (.tuple #[.int .i64 r1,.string r2,.int .i64 fE]) /\ TV p S0 w0 t v b d m T B w'):=hid (by rw [hr1,hr2,hfE];exact HF.out)
 have HR1:=hid hr1
 have HR2:=hid hr2
 have HFE:=hid hfE
 clear hr1 hr2 hfE HF
 by_cases hk1:kn = 1
 ·skip
  have hkd:kn = 1:=by omega
  subst hkd
  clear hpick hk1
  by_cases hf0:fE = 0
  ·subst hf0
   obtain ⟨o1,o2,o3,o4⟩:=HFO.out HFE.out.symm
   rw [<- HR1.out] at o1 o2 o4
   rw [<- HR2.out] at o3 o4
   have O1:=hid o1
   have O2:=hid o2
   have O3:=hid o3
   have O4:=hid o4
   clear o1 o2 o3 o4
   go_wp2_with fail
   refine HF2.out.mono ?_
   rintro e w2 ⟨rfl,V2⟩
   have k1:=V2.blk.cell (j:=1) rfl
   have hnw:=t_new V2 (loc_star (loc_blk _ _ _) HB.out) (by omega) 1
   cases h1:firstT T with
   | none =>
    have hm1:mk = (4,T):=by rw [HMKK.out];exact make_full HKK.out HFE.out.symm h1
    have hn1:mn = 0:=HMN0.out (by rw [hm1];exact fun h=>by cases h)
    subst hm1
    subst hn1
    rw [new_full (T:=T) (kind:=1) (.inl rfl) h1,if_neg (by decide)] at hnw
    have HNW:=hid hnw
    clear hnw V2 HF2 h1
    go_wp2_with fail
    refine HNW.out.mono ?_
    rintro e w3 ⟨rfl,VX⟩
    clear HNW k1
    have HE:=hid (tends_bad VX HB.out (x:=4) (by decide))
    clear VX
    go_wp2_with fail
    refine HE.out.mono ?_
    rintro e w9 ⟨rfl,V9⟩
    have HV9:=hid V9
    clear V9 HE
    go_wp2_with fail
    go_ret2
    exact .inl ⟨rfl,p,id,HV9.out⟩
   | some k =>
    obtain ⟨n1,n2,n3,n4,n5⟩:=new_vol (T:=T) (kind:=1) (.inl rfl) h1
    rw [n1,n2,n3,if_pos rfl] at hnw
    have HNW:=hid hnw
    have HN4:=hid n4
    have HN5:=hid n5
    obtain ⟨hk32,hk0⟩:=first_some h1
    have hfr:=HI.out.free k hk32 hk0
    have hdk:r1 ≠ k:=fun e=>by have:=O2.out;rw [e] at this;omega
    obtain ⟨U,hU⟩:∃ U,U = setT T k (newX 1 r1):=⟨_,rfl⟩
    have hUr:U r1 = T r1:=by rw [hU];exact setT_other T _ hdk
    have HDU:Hid (DirOk U r1):=hid (by rw [hU];exact HI.out.new_dir O1.out O2.out hk0 _)
    have HUU:Hid ((U r1).up < 32):=hid (by rw [hUr];exact (HI.out.up r1 O1.out O2.out).1)
    have HSO:Hid (SlotOk (some (k,r2))):=hid ⟨hk32,O3.out⟩
    have HK32:=hid hk32
    have HNM:Hid (r2.size <= 14):=hid (named_size O3.out)
    have HHELD:Hid (∀ j,j < 32 -> (makeU T 1 r1 k r2 j).held = (T j).held):=hid fun j _=>held_make T hfr hdk j
    have HLW:=hid (make_law HI.out O1.out O2.out h1 O3.out (kind:=1) (by omega) HSUM.out)
    have HMK:Hid (mk = if fitsT m (makeU T 1 r1 k r2) then (0,makeU T 1 r1 k r2) else (4,T)):=hid (by
     rw [HMKK.out,make_is HKK.out HFE.out.symm h1,<- HR1.out,<- HR2.out]
     rfl)
    have HMN:=hid (HMNK.out k h1)
    have HU:=hid hU
    clear hnw n1 n2 n3 n4 n5 V2 HF2 h1 hk32 hk0 hfr hdk hUr hU
    go_wp2_with fail
    refine HNW.out.mono ?_
    rintro e w3 ⟨rfl,V3⟩
    have k3:=V3.blk.cell (j:=1) rfl
    have hlk:=t_link V3 (loc_star (loc_blk _ _ _) HB.out) (by omega) k 1
    rw [HN4.out,HN5.out] at hlk
    have HLK:=hid hlk
    clear hlk V3 HNW k1
    go_wp2_with fail
    refine HLK.out.mono ?_
    rintro e w4 ⟨rfl,V4⟩
    clear HLK
    have VU:VT 2 p S0 w0 v b d m (volT U) (volT T) (Star (trA t b v T) B) w4:=V4.same (by rw [HU.out,vol_set,newX_file];rfl)
    have HLAW:Hid ((addE m U r1 (k,r2) = 0 \/ addE m U r1 (k,r2) = 4 \/ addE m U r1 (k,r2) = 15) /\ (fitsT m (makeU T 1 r1 k r2) = true -> addE m U r1 (k,r2) = 0) /\ (addE m U r1 (k,r2) = 0 -> fitsT m (makeU T 1 r1 k r2) = true)):=hid (by
     obtain ⟨a,b'⟩:=HLW.out.2 (fun h=>by omega)
     rw [HU.out]
     exact ⟨a,b'.1,b'.2⟩)
    clear V4
    obtain ⟨sx,hsx⟩:∃ sx,areadB (volT U) r1 0 2368 = sx:=⟨_,rfl⟩
    have HAD:=tadd_calls (n:=(r1:Nat)) VU (by omega) HB.out hsx k r2 (by have:=HK32.out;omega) HNM.out
    rw [add_vol HDU.out HUU.out hsx (k,r2)] at HAD
    have hgo:=add_go (m:=m) HDU.out HUU.out hsx HSO.out
    have hput:putT U r1 (k,r2) = makeU T 1 r1 k r2:=by rw [HU.out];rfl
    rw [hput] at hgo
    rw [hgo] at HAD
    obtain ⟨aE,haE⟩:∃ aE,aE = addE m U r1 (k,r2):=⟨_,rfl⟩
    rw [<- haE] at HAD
    have HAE:=hid haE
    have HAD:=hid HAD
    clear VU hsx haE hgo hput
    by_cases ha0:aE = 0
    ·have hmk:mk = (0,makeU T 1 r1 k r2):=by rw [HMK.out,if_pos (HLAW.out.2.2 (by rw [<- HAE.out];exact ha0))]
     have hmn:mn = k:=HMN.out (by rw [hmk])
     subst hmk
     subst hmn
     have HAD2:=HAD.out
     rw [if_neg (by rw [ha0];decide),if_pos ha0,ha0] at HAD2
     have HAD2:=hid HAD2
     clear ha0 HAD
     go_wp2_with fail
     refine HAD2.out.mono ?_
     rintro e w8 ⟨rfl,V8⟩
     have HE:=hid (tends_ok V8 HB.out)
     clear V8 HAD2
     go_wp2_with fail
     refine HE.out.mono ?_
     rintro e w9 (⟨rfl,p',hp',V9⟩ | ⟨hp,rfl,D9⟩)
     ·have HV9:=hid V9
      have HP9:=hid hp'
      clear V9 HE hp'
      go_wp2_with fail
      go_ret2
      refine .inl ⟨rfl,p',HP9.out,?_⟩
      show VT 0 p' S0 w0 v b d m (volT (makeU T 1 r1 mn r2)) (volT (makeU T 1 r1 mn r2)) (Star (blkA t tTree (treeL b v (makeU T 1 r1 mn r2) false)) B) w9
      rw [treeL_congr HHELD.out]
      exact HV9.out
     ·have HD9:=hid D9
      have HP9:=hid hp
      clear D9 HE hp
      go_wp2_with fail
      go_ret2
      exact .inr ⟨HP9.out,rfl,rfl,DT.less (e:=.returned (.int .i64 7)) HD9.out⟩
    ·have hmk:mk = (4,T):=by rw [HMK.out,if_neg (fun hc=>ha0 (by rw [HAE.out];exact HLAW.out.2.1 hc))]
     have hmn:mn = 0:=HMN0.out (by rw [hmk];exact fun h=>by cases h)
     subst hmk
     subst hmn
     have HAD2:=HAD.out
     rw [if_neg ha0] at HAD2
     have h4:(if aE = 15 then (4:Int) else aE) = 4:=by
      rcases HLAW.out.1 with h | h | h
      ·rw [<- HAE.out] at h;exact absurd h ha0
      ·rw [<- HAE.out] at h;rw [if_neg (by omega),h]
      ·rw [<- HAE.out] at h;rw [if_pos h]
     rw [h4] at HAD2
     have HAD2:=hid HAD2
     clear ha0 HAD h4
     go_wp2_with fail
     refine HAD2.out.mono ?_
     rintro e w8 ⟨rfl,V8⟩
     have HE:=hid (tends_bad V8 HB.out (x:=4) (by decide))
     clear V8 HAD2
     go_wp2_with fail
     refine HE.out.mono ?_
     rintro e w9 ⟨rfl,V9⟩
     have HV9:=hid V9
     clear V9 HE
     go_wp2_with fail
     go_ret2
     exact .inl ⟨rfl,p,id,HV9.out⟩
  ·have hm1:mk = (fE,T):=by rw [HMKK.out,HFE.out];exact make_fresh HKK.out (by rw [<- HFE.out];exact hf0)
   have hn1:mn = 0:=HMN0.out (by rw [hm1];exact hf0)
   subst hm1
   subst hn1
   have b0:(fE != 0) = true:=by simpa using hf0
   clear hf0
   go_wp2_with fail
   refine HF2.out.mono ?_
   rintro e w2 ⟨rfl,V2⟩
   have HV2:=hid V2
   clear V2 HF2
   go_wp2_with fail
   go_ret2
   exact .inl ⟨rfl,p,id,HV2.out⟩
 ·have hk2:kn = 2:=by have:=HKK.out;omega
  have hkd:kn = 2:=by omega
  subst hkd
  clear hpick hk1
  by_cases hf0:fE = 0
  ·subst hf0
   obtain ⟨o1,o2,o3,o4⟩:=HFO.out HFE.out.symm
   rw [<- HR1.out] at o1 o2 o4
   rw [<- HR2.out] at o3 o4
   have O1:=hid o1
   have O2:=hid o2
   have O3:=hid o3
   have O4:=hid o4
   clear o1 o2 o3 o4
   go_wp2_with fail
   refine HF2.out.mono ?_
   rintro e w2 ⟨rfl,V2⟩
   have k1:=V2.blk.cell (j:=1) rfl
   have hnw:=t_new V2 (loc_star (loc_blk _ _ _) HB.out) (by omega) 2
   cases h1:firstT T with
   | none =>
    have hm1:mk = (4,T):=by rw [HMKK.out];exact make_full HKK.out HFE.out.symm h1
    have hn1:mn = 0:=HMN0.out (by rw [hm1];exact fun h=>by cases h)
    subst hm1
    subst hn1
    rw [new_full (T:=T) (kind:=2) (.inr rfl) h1,if_neg (by decide)] at hnw
    have HNW:=hid hnw
    clear hnw V2 HF2 h1
    go_wp2_with fail
    refine HNW.out.mono ?_
    rintro e w3 ⟨rfl,VX⟩
    clear HNW k1
    have HE:=hid (tends_bad VX HB.out (x:=4) (by decide))
    clear VX
    go_wp2_with fail
    refine HE.out.mono ?_
    rintro e w9 ⟨rfl,V9⟩
    have HV9:=hid V9
    clear V9 HE
    go_wp2_with fail
    go_ret2
    exact .inl ⟨rfl,p,id,HV9.out⟩
   | some k =>
    obtain ⟨n1,n2,n3,n4,n5⟩:=new_vol (T:=T) (kind:=2) (.inr rfl) h1
    rw [n1,n2,n3,if_pos rfl] at hnw
    have HNW:=hid hnw
    have HN4:=hid n4
    have HN5:=hid n5
    obtain ⟨hk32,hk0⟩:=first_some h1
    have hfr:=HI.out.free k hk32 hk0
    have hdk:r1 ≠ k:=fun e=>by have:=O2.out;rw [e] at this;omega
    obtain ⟨U,hU⟩:∃ U,U = setT T k (newX 2 r1):=⟨_,rfl⟩
    have hUr:U r1 = T r1:=by rw [hU];exact setT_other T _ hdk
    have HDU:Hid (DirOk U r1):=hid (by rw [hU];exact HI.out.new_dir O1.out O2.out hk0 _)
    have HUU:Hid ((U r1).up < 32):=hid (by rw [hUr];exact (HI.out.up r1 O1.out O2.out).1)
    have HSO:Hid (SlotOk (some (k,r2))):=hid ⟨hk32,O3.out⟩
    have HK32:=hid hk32
    have HNM:Hid (r2.size <= 14):=hid (named_size O3.out)
    have HHELD:Hid (∀ j,j < 32 -> (makeU T 2 r1 k r2 j).held = (T j).held):=hid fun j _=>held_make T hfr hdk j
    have HLW:=hid (make_law HI.out O1.out O2.out h1 O3.out (kind:=2) (by omega) HSUM.out)
    have HMK:Hid (mk = if fitsT m (makeU T 2 r1 k r2) then (0,makeU T 2 r1 k r2) else (4,T)):=hid (by
     rw [HMKK.out,make_is HKK.out HFE.out.symm h1,<- HR1.out,<- HR2.out]
     rfl)
    have HMN:=hid (HMNK.out k h1)
    have HU:=hid hU
    clear hnw n1 n2 n3 n4 n5 V2 HF2 h1 hk32 hk0 hfr hdk hUr hU
    go_wp2_with fail
    refine HNW.out.mono ?_
    rintro e w3 ⟨rfl,V3⟩
    have k3:=V3.blk.cell (j:=1) rfl
    have hlk:=t_link V3 (loc_star (loc_blk _ _ _) HB.out) (by omega) k 1
    rw [HN4.out,HN5.out] at hlk
    have HLK:=hid hlk
    clear hlk V3 HNW k1
    go_wp2_with fail
    refine HLK.out.mono ?_
    rintro e w4 ⟨rfl,V4⟩
    clear HLK
    have k4:=V4.blk.cell (j:=1) rfl
    have V4d:=V4.keep (loc_star (loc_blk _ _ _) HB.out) (Fr.refl _ _).drew
    have HV4:=hid V4d
    have hfg:=first_goes (m:=m) (dir:=r1) HK32.out (setA (volT T) k ⟨2,1,[]⟩) (by unfold setA;rw [if_pos rfl])
    have HFG:=hid hfg
    have HTX:Hid (∀ W:World,Calls Tryz.prog 49 #[.agg #[.int .i64 (r1:Nat),.string ⟨#[46,46]⟩]] W fun e w'=>e = .returned (.string (txtB (r1 + 1) dot2)) /\ Fr Nob W w'):=hid fun W=>ttext_calls (r1:Nat) (r1 + 1) (by omega) (by have:=O1.out;omega) dot2 (by rw [dot2_size];omega) W
    clear V4 V4d hfg k3
    by_cases hro:aroom m (setA (volT T) k ⟨2,1,[]⟩) < 1
    ·have hm1:mk = (4,T):=by rw [HMK.out,HLW.out.1 (by first | rfl | trivial) hro];rfl
     have hn1:mn = 0:=HMN0.out (by rw [hm1];exact fun h=>by cases h)
     subst hm1
     subst hn1
     have HWR:Hid (∀ W,VT 2 p S0 w0 v b d m (setA (volT T) k ⟨2,1,[]⟩) (volT T) (Star (trA t b v T) B) W -> Calls Tryz.prog 48 #[.pointer (some ⟨v,0,none⟩),.int .i64 k,.int .i64 0,.string (txtB (r1 + 1) dot2)] W fun e w'=>e = .returned (.int .i64 4) /\ VT 9 p S0 w0 v b d m (setA (volT T) k ⟨2,1,[]⟩) (volT T) (Star (trA t b v T) B) w'):=hid fun W hW=>by
      have h:=t_patch hW (loc_star (loc_blk _ _ _) HB.out) (by omega) k 0 (txtB (r1 + 1) dot2) (by rw [txtB_size (by rw [dot2_size];omega)];decide)
      rw [HFG.out.1,HFG.out.2,if_pos hro,if_pos hro] at h
      exact h
     clear hro
     go_wp2_with fail
     go_region_held3 (fun w'=>w'.cell? ⟨t,1,none⟩ = some (.pointer (some ⟨v,0,none⟩)))
      (first | go_keep | exact k4 | exact k5 | exact k6)
      (first
       | (go_at_call 49;refine (HTX.out _).mono ?_;rintro e w5 ⟨rfl,hf5⟩;have V5:=HV4.out.keep (loc_star (loc_blk _ _ _) HB.out) hf5;have k5:=V5.blk.cell (j:=1) rfl;have HV5:=hid V5;clear V5 hf5)
       | (go_at_call 48;refine (HWR.out _ HV5.out).mono ?_;rintro e w6 ⟨rfl,V6⟩;have k6:=V6.blk.cell (j:=1) rfl;have HV6:=hid V6;clear V6))
     have VX:=HV6.out
     clear k4 k5 k6
     have HE:=hid (tends_bad VX HB.out (x:=4) (by decide))
     clear VX
     go_wp2_with fail
     refine HE.out.mono ?_
     rintro e w9 ⟨rfl,V9⟩
     have HV9:=hid V9
     clear V9 HE
     go_wp2_with fail
     go_ret2
     exact .inl ⟨rfl,p,id,HV9.out⟩
    ·have HWR:Hid (∀ W,VT 2 p S0 w0 v b d m (setA (volT T) k ⟨2,1,[]⟩) (volT T) (Star (trA t b v T) B) W -> Calls Tryz.prog 48 #[.pointer (some ⟨v,0,none⟩),.int .i64 k,.int .i64 0,.string (txtB (r1 + 1) dot2)] W fun e w'=>e = .returned (.int .i64 0) /\ VT 9 p S0 w0 v b d m (setA (setA (volT T) k ⟨2,1,[]⟩) k (nodeT (newX 2 r1))) (volT T) (Star (trA t b v T) B) w'):=hid fun W hW=>by
      have h:=t_patch hW (loc_star (loc_blk _ _ _) HB.out) (by omega) k 0 (txtB (r1 + 1) dot2) (by rw [txtB_size (by rw [dot2_size];omega)];decide)
      rw [HFG.out.1,HFG.out.2,if_neg hro,if_neg hro] at h
      exact h
     have HLAW:Hid ((addE m U r1 (k,r2) = 0 \/ addE m U r1 (k,r2) = 4 \/ addE m U r1 (k,r2) = 15) /\ (fitsT m (makeU T 2 r1 k r2) = true -> addE m U r1 (k,r2) = 0) /\ (addE m U r1 (k,r2) = 0 -> fitsT m (makeU T 2 r1 k r2) = true)):=hid (by
      obtain ⟨a,b'⟩:=HLW.out.2 (fun _=>hro)
      rw [HU.out]
      exact ⟨a,b'.1,b'.2⟩)
     clear hro
     go_wp2_with fail
     go_region_held3 (fun w'=>w'.cell? ⟨t,1,none⟩ = some (.pointer (some ⟨v,0,none⟩)))
      (first | go_keep | exact k4 | exact k5 | exact k6)
      (first
       | (go_at_call 49;refine (HTX.out _).mono ?_;rintro e w5 ⟨rfl,hf5⟩;have V5:=HV4.out.keep (loc_star (loc_blk _ _ _) HB.out) hf5;have k5:=V5.blk.cell (j:=1) rfl;have HV5:=hid V5;clear V5 hf5)
       | (go_at_call 48;refine (HWR.out _ HV5.out).mono ?_;rintro e w6 ⟨rfl,V6⟩;have k6:=V6.blk.cell (j:=1) rfl;have HV6:=hid V6;clear V6))
     have VU:VT 9 p S0 w0 v b d m (volT U) (volT T) (Star (trA t b v T) B) w6:=HV6.out.same (by rw [HU.out,vol_set,setA_twice])
     clear k4 k5 k6
     obtain ⟨sx,hsx⟩:∃ sx,areadB (volT U) r1 0 2368 = sx:=⟨_,rfl⟩
     have HAD:=tadd_calls (n:=(r1:Nat)) VU (by omega) HB.out hsx k r2 (by have:=HK32.out;omega) HNM.out
     rw [add_vol HDU.out HUU.out hsx (k,r2)] at HAD
     have hgo:=add_go (m:=m) HDU.out HUU.out hsx HSO.out
     have hput:putT U r1 (k,r2) = makeU T 2 r1 k r2:=by rw [HU.out];rfl
     rw [hput] at hgo
     rw [hgo] at HAD
     obtain ⟨aE,haE⟩:∃ aE,aE = addE m U r1 (k,r2):=⟨_,rfl⟩
     rw [<- haE] at HAD
     have HAE:=hid haE
     have HAD:=hid HAD
     clear VU hsx haE hgo hput
     by_cases ha0:aE = 0
     ·have hmk:mk = (0,makeU T 2 r1 k r2):=by rw [HMK.out,if_pos (HLAW.out.2.2 (by rw [<- HAE.out];exact ha0))]
      have hmn:mn = k:=HMN.out (by rw [hmk])
      subst hmk
      subst hmn
      have HAD2:=HAD.out
      rw [if_neg (by rw [ha0];decide),if_pos ha0,ha0] at HAD2
      have HAD2:=hid HAD2
      clear ha0 HAD
      go_wp2_with fail
      refine HAD2.out.mono ?_
      rintro e w8 ⟨rfl,V8⟩
      have HE:=hid (tends_ok V8 HB.out)
      clear V8 HAD2
      go_wp2_with fail
      refine HE.out.mono ?_
      rintro e w9 (⟨rfl,p',hp',V9⟩ | ⟨hp,rfl,D9⟩)
      ·have HV9:=hid V9
       have HP9:=hid hp'
       clear V9 HE hp'
       go_wp2_with fail
       go_ret2
       refine .inl ⟨rfl,p',HP9.out,?_⟩
       show VT 0 p' S0 w0 v b d m (volT (makeU T 2 r1 mn r2)) (volT (makeU T 2 r1 mn r2)) (Star (blkA t tTree (treeL b v (makeU T 2 r1 mn r2) false)) B) w9
       rw [treeL_congr HHELD.out]
       exact HV9.out
      ·have HD9:=hid D9
       have HP9:=hid hp
       clear D9 HE hp
       go_wp2_with fail
       go_ret2
       exact .inr ⟨HP9.out,rfl,rfl,DT.less (e:=.returned (.int .i64 7)) HD9.out⟩
     ·have hmk:mk = (4,T):=by rw [HMK.out,if_neg (fun hc=>ha0 (by rw [HAE.out];exact HLAW.out.2.1 hc))]
      have hmn:mn = 0:=HMN0.out (by rw [hmk];exact fun h=>by cases h)
      subst hmk
      subst hmn
      have HAD2:=HAD.out
      rw [if_neg ha0] at HAD2
      have h4:(if aE = 15 then (4:Int) else aE) = 4:=by
       rcases HLAW.out.1 with h | h | h
       ·rw [<- HAE.out] at h;exact absurd h ha0
       ·rw [<- HAE.out] at h;rw [if_neg (by omega),h]
       ·rw [<- HAE.out] at h;rw [if_pos h]
      rw [h4] at HAD2
      have HAD2:=hid HAD2
      clear ha0 HAD h4
      go_wp2_with fail
      refine HAD2.out.mono ?_
      rintro e w8 ⟨rfl,V8⟩
      have HE:=hid (tends_bad V8 HB.out (x:=4) (by decide))
      clear V8 HAD2
      go_wp2_with fail
      refine HE.out.mono ?_
      rintro e w9 ⟨rfl,V9⟩
      have HV9:=hid V9
      clear V9 HE
      go_wp2_with fail
      go_ret2
      exact .inl ⟨rfl,p,id,HV9.out⟩
  ·have hm1:mk = (fE,T):=by rw [HMKK.out,HFE.out];exact make_fresh HKK.out (by rw [<- HFE.out];exact hf0)
   have hn1:mn = 0:=HMN0.out (by rw [hm1];exact hf0)
   subst hm1
   subst hn1
   have b0:(fE != 0) = true:=by simpa using hf0
   clear hf0
   go_wp2_with fail
   refine HF2.out.mono ?_
   rintro e w2 ⟨rfl,V2⟩
   have HV2:=hid V2
   clear V2 HF2
   go_wp2_with fail
   go_ret2
   exact .inl ⟨rfl,p,id,HV2.out⟩
end
end
theorem vol_fresh:volT freshT = setA (fun _=>Node.free) 0 (nodeT (newX 2 0)):=by
 unfold freshT
 rw [vol_set]
 rfl
def fmt1 (n:Int):LSt:=vformat (freshL n)
def fmt2 (n:Int):LSt:=vnew (fmt1 n) 2
def fmt3 (n:Int):LSt:=vlink (fmt2 n) 0 1
def fmt4 (n:Int):LSt:=vwrite (fmt3 n) 0 0 (txtB 1 dot2)
theorem fmt_chain (n:Int) (hv:VOk (freshL n)) :
 VOk (fmt1 n) /\ vnewE (fmt1 n) 2 = 0 /\ newR (fmt1 n) 2 = 0 /\ VOk (fmt2 n) /\ vlinkE (fmt2 n) 0 1 = 0 /\ VOk (fmt3 n) /\ vwriteE (fmt3 n) 0 0 (txtB 1 dot2) = 0 /\ ∃ X,VolL (freshN n - 32) (fun _=>nought) X (volT freshT) (fmt4 n):=by
 have h0:=fresh_alv n hv
 obtain ⟨X1,h1,hl1⟩:=format_goes h0
 obtain ⟨hm1,hm2⟩:=h0.m16
 have f1:vfullB (fmt1 n) = false:=h1.full16 (by omega)
 have hl2:(fmt2 n).stg.length <= 10:=Nat.le_trans (vnew_len _ _) (by show (vformat (freshL n)).stg.length + 1 <= 10;omega)
 have hl3:(fmt3 n).stg.length <= 11:=Nat.le_trans (vlink_len _ _ _) (by omega)
 obtain ⟨a1,a2,X2,a3⟩:=VolL.new (L:=fmt1 n) h1 2
 rw [f1] at a1 a3
 have e1:anewE (fun _=>Node.free) false 2 = 0:=rfl
 have e2:anew (fun _=>Node.free) false 2 = setA (fun _=>Node.free) 0 ⟨2,0,[]⟩:=rfl
 rw [e1] at a1
 rw [e2] at a3
 have a3:VolL (freshN n - 32) (fun _=>nought) X2 (setA (fun _=>Node.free) 0 ⟨2,0,[]⟩) (fmt2 n):=a3
 have r1:newR (fmt1 n) 2 = 0:=by
  unfold newR
  rw [if_pos a1,a2 a1]
  rfl
 have f2:vfullB (fmt2 n) = false:=a3.full16 (by omega)
 obtain ⟨b1,X3,b3⟩:=a3.link 0 1
 rw [f2] at b1 b3
 have e3:alinkE (setA (fun _=>Node.free) 0 ⟨2,0,[]⟩) false 0 1 = 0:=rfl
 have e4:alink (setA (fun _=>Node.free) 0 ⟨2,0,[]⟩) false 0 1 = setA (fun _=>Node.free) 0 ⟨2,1,[]⟩:=by
  show setA (setA (fun _=>Node.free) 0 ⟨2,0,[]⟩) 0 ⟨2,1,[]⟩ = _
  exact setA_twice _ _ _ _
 rw [e3] at b1
 rw [e4] at b3
 have b3:VolL (freshN n - 32) (fun _=>nought) X3 (setA (fun _=>Node.free) 0 ⟨2,1,[]⟩) (fmt3 n):=b3
 have f3:vfullB (fmt3 n) = false:=b3.full16 (by omega)
 obtain ⟨c1,X4,c3⟩:=b3.write 0 0 (txtB 1 dot2)
 rw [f3] at c1 c3
 obtain ⟨d1,d2⟩:=first_goes (m:=freshN n - 32) (n:=0) (dir:=0) (by omega) (setA (fun _=>Node.free) 0 ⟨2,1,[]⟩) rfl
 have hroom:¬ aroom (freshN n - 32) (setA (fun _=>Node.free) 0 ⟨2,1,[]⟩) < 1:=by
  have:sumT (setA (fun _=>Node.free) 0 ⟨2,1,[]⟩) 32 = 0:=rfl
  unfold aroom
  rw [this]
  omega
 rw [if_neg hroom] at d1 d2
 have g1:vwriteE (fmt3 n) 0 0 (txtB 1 dot2) = 0:=c1.trans d1
 refine ⟨h1.alv.vok,a1,r1,a3.alv.vok,b1,b3.alv.vok,g1,X4,?_⟩
 have hA:awrite (freshN n - 32) (setA (fun _=>Node.free) 0 ⟨2,1,[]⟩) false 0 0 (txtB 1 dot2) = volT freshT:=by
  refine d2.trans ?_
  rw [vol_fresh]
  exact setA_twice _ _ _ _
 rw [hA] at c3
 exact c3
section
open Go.RowKit Go.Shelf
theorem vformat_D (L:LSt):(vformat L).D = L.D:=by
 have h1:∀ (l:List Nat) (L:LSt),(l.foldl (fun L i=>L.set (i:Nat) nought) L).D = L.D:=by
  intro l
  induction l with
  | nil=>intro L;rfl
  | cons a l ih=>intro L;exact (ih _).trans (setL_D _ _ _)
 have h2:∀ (l:List Nat) (L:LSt),(l.foldl (fun L i=>vmark L i true) L).D = L.D:=by
  intro l
  induction l with
  | nil=>intro L;rfl
  | cons a l ih=>intro L;exact (ih _).trans (vmark_D _ _ _)
 exact (h2 _ _).trans (h1 _ _)
section
variable {S0:Nat -> Prop} {w0 w w':World} {t v b d m c:Nat} {p:Int} {A A0:Nat -> Node} {T:Tr} {B R:Asr} {L:LSt} {H:Sec}
theorem tends_fmt (h:VV S0 w0 v b d L (Star (trA t b v T) B) w) (hB:Loc B) (hV:∃ X,VolL m H X A L) (hp:L.D.power = -1) :
 Calls Tryz.prog 51 #[.pointer (some ⟨t,0,none⟩),.int .i64 0] w fun e w'=>e = .returned (.int .i64 0) /\ VT 0 (-1) S0 w0 v b d m A A (Star (trA t b v T) B) w':=by
 obtain ⟨X,h2⟩:=hV
 have hbk:Blk w t tTree (treeL b v T false):=VV.blk h
 have k0:=hbk.cell (j:=0) rfl
 have hcm:=VV.commit h (loc_star (loc_blk _ _ _) hB) h2.alv.vok
 obtain ⟨c1,c2,c3,c4,c5⟩:=h2.commit (.inr (.inl hp))
 rw [c1] at hcm
 have hpw:L.commit.D.power = -1:=c4 hp
 have HC:Hid (Calls Tryz.prog 105 #[.pointer (some ⟨b,0,none⟩)] w fun e w'=>e = .returned (.int .i64 0) /\ VT 0 (-1) S0 w0 v b d m A A (Star (trA t b v T) B) w'):=hid (hcm.mono fun e w' ⟨he,h'⟩ =>
  ⟨he,L.commit,X,X,h',c5 ((VV.gone h').vok c2 (by omega)) (by rw [hpw];exact Int.le_refl _),h2.vol,by rw [c2];exact Nat.le_refl 0,hpw⟩)
 clear h hB h2 hp hbk hcm c1 c2 c3 c4 c5 hpw
 go_enter Tryz.func51,Tryz.ntmps51
 go_wp2_with fail
 refine HC.out.mono ?_
 rintro e w1 ⟨rfl,V1⟩
 have HV:=hid V1
 clear V1 k0 HC
 go_wp2_with fail
 go_ret
 exact ⟨rfl,HV.out⟩
theorem tFormat_calls {n:Int} (hL:Lv S0 w0 (Star (dskA kD d (DSt.fresh (freshN n))) B) w) (hB:Loc B) :
 Calls Tryz.prog 33 #[.pointer (some ⟨d,0,none⟩)] w fun e w'=>∃ t b v,e = .returned (.tuple #[.pointer (some ⟨t,0,none⟩),.int .i64 0]) /\ TV (-1) S0 w0 t v b d (freshN n - 32) freshT B w':=by
 obtain ⟨e1,hE⟩:=freshL_eq n
 have HO:Hid (Calls Tryz.prog 63 #[.pointer (some ⟨d,0,none⟩)] w fun e w'=>∃ b,e = .returned (.tuple #[.pointer (some ⟨b,0,none⟩),.int .i64 0]) /\ LV S0 w0 b d (freshL n) B w') :=
  hid (lv_opens hL hB hE (by show (([]:List (Nat × ByteArray)).length + 31) * 24 <= 140737488355328;decide))
 have HE1:=hid e1
 have HB:=hid hB
 clear hL hB e1 hE
 go_enter Tryz.func33,Tryz.ntmps33
 go_wp2_with fail
 refine HO.out.mono ?_
 rintro e w1 ⟨b,rfl,L0⟩
 have hk:VOk (freshL n):=L0.vok (by rw [HE1.out]) (by rw [HE1.out];exact Nat.zero_le _)
 have h0:=fresh_alv n hk
 have HF:=hid (vformat_calls L0 HB.out hk h0.get0.1 (by rw [HE1.out];rfl))
 have HCH:=hid (fmt_chain n hk)
 clear L0 HO hk h0
 go_wp2_with fail
 refine HF.out.mono ?_
 rintro e w2 ⟨v,rfl,V1⟩
 have V1:VV S0 w0 v b d (fmt1 n) B w2:=V1
 obtain ⟨o1,o2,o3,o4,o5,o6,o7,o8⟩:=HCH.out
 have V2:=VV.box V1 HB.out tTree (treeL b v freshT false)
 have hlB:Loc (Star (trA w2.heap.size b v freshT) B):=loc_star (loc_blk _ _ _) HB.out
 have HNW:=vnew_calls V2 hlB o1 2
 rw [o2,o3] at HNW
 have HNW:=hid HNW
 have HO4:=hid o4
 have HO5:=hid o5
 have HO6:=hid o6
 have HO7:=hid o7
 have HO8:=hid o8
 have HLB:=hid hlB
 clear V1 V2 HF o1 o2 o3 o4 o5 o6 o7 o8 hlB HCH
 go_wp2_with fail
 refine HNW.out.mono ?_
 rintro e w3 ⟨rfl,V3⟩
 obtain ⟨tb,htb⟩:∃ tb,tb = w2.heap.size:=⟨_,rfl⟩
 rw [<- htb] at V3 ⊢
 rw [<- htb] at HLB
 have V3:VV S0 w0 v b d (fmt2 n) (Star (trA tb b v freshT) B) w3:=V3
 have HLK:=vlink_calls V3 HLB.out HO4.out 0 1
 rw [HO5.out] at HLK
 have HLK:=hid HLK
 clear V3 HNW htb
 go_wp2_with fail
 refine HLK.out.mono ?_
 rintro e w4 ⟨rfl,V4⟩
 have V4:VV S0 w0 v b d (fmt3 n) (Star (trA tb b v freshT) B) w4:=V4
 have HTX:Hid (∀ W:World,Calls Tryz.prog 49 #[.agg #[.int .i64 0,.string ⟨#[46,46]⟩]] W fun e w'=>e = .returned (.string (txtB 1 dot2)) /\ Fr Nob W w'):=hid fun W=>ttext_calls 0 1 (by omega) (by omega) dot2 (by rw [dot2_size];omega) W
 have HV4:=hid V4
 clear V4 HLK
 go_wp2_with fail
 refine (HTX.out _).mono ?_
 rintro e w5 ⟨rfl,hf5⟩
 have V5:=Lv.keep HV4.out (VV.loc HLB.out) hf5
 have HWR:=vwrite_calls V5 HLB.out HO6.out 0 0 (txtB 1 dot2)
 rw [HO7.out] at HWR
 have HWR:=hid HWR
 clear V5 hf5
 go_wp2_with fail
 refine HWR.out.mono ?_
 rintro e w6 ⟨rfl,V6⟩
 have V6:VV S0 w0 v b d (fmt4 n) (Star (trA tb b v freshT) B) w6:=V6
 have hpw:(fmt4 n).D.power = -1:=by
  unfold fmt4 fmt3 fmt2
  rw [vwrite_D,vlink_D,vnew_D]
  unfold fmt1
  rw [vformat_D,HE1.out]
  rfl
 have HE:=hid (tends_fmt V6 HB.out HO8.out hpw)
 clear V6 HWR hpw
 go_wp2_with fail
 refine HE.out.mono ?_
 rintro e w7 ⟨rfl,V7⟩
 have HV:=hid V7
 clear V7 HE
 go_wp2_with fail
 go_ret2
 exact ⟨tb,b,v,rfl,HV.out⟩
end
end
end Go.Proofs.YtngalllaiphkhaaGreatDoor
