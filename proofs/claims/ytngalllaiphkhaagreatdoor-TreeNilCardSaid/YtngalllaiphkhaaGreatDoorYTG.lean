import Derived.Test.YtngalllaiphkhaaGreatDoorYTE
namespace Go.Proofs.YtngalllaiphkhaaGreatDoor
open Go.RowKit
open Go.Lib (hid)
set_option maxRecDepth 100000
set_option maxHeartbeats 16000000
set_option linter.unusedVariables false
set_option linter.unusedSimpArgs false
section
open Go.RowKit Go.Shelf
section
variable {S0:Nat -> Prop} {w0 w w':World} {t v b d m c bt bn:Nat} {p n:Int} {A A0:Nat -> Node} {T U:Tr} {B R C C':Asr}
theorem alink_full {n:Nat} (h:alinkE (volT T) false n 1 = 15):alink (volT T) false n 1 = volT T:=by
 unfold alink
 rw [if_neg (by rw [h];decide)]
theorem link_is {from_:Int} {old path:ByteArray} (h0:(findT T from_ old).2 = 0) (hk:(T (findT T from_ old).1).kind ≠ 2) :
 linkT m T from_ old path = if freshE T (lastT T from_ path) ≠ 0 then (freshE T (lastT T from_ path),T) else if (T (findT T from_ old).1).links = 255 then (15,T) else
  if fitsT m (linkU T (findT T from_ old).1 (lastT T from_ path).1 (lastT T from_ path).2.1) then (0,linkU T (findT T from_ old).1 (lastT T from_ path).1 (lastT T from_ path).2.1) else (4,T):=by
 unfold linkT
 simp only [if_neg (not_not_intro h0),if_neg hk]
 unfold freshE
 by_cases h:(lastT T from_ path).2.2 ≠ 0
 ·simp only [if_pos h]
 ·simp only [if_neg h]
  by_cases h2:(entryT (T (lastT T from_ path).1) (lastT T from_ path).2.1).isSome = true
  ·simp only [if_pos h2]
   rw [if_pos (by decide)]
  ·simp only [if_neg h2]
   simp only [ne_eq,not_true_eq_false,if_false]
theorem held_link (T:Tr) {k dir:Nat} {s:ByteArray} (hdk:dir ≠ k) (j:Nat):(linkU T k dir s j).held = (T j).held:=by
 unfold linkU putT
 by_cases hj:j = dir
 ·subst hj
  rw [setT_same,setT_other T _ hdk]
 ·rw [setT_other _ _ hj]
  by_cases hjk:j = k
  ·subst hjk;rw [setT_same]
  ·rw [setT_other T _ hjk]
theorem tLink_calls (h:TV p S0 w0 t v b d m T B w) (hB:Loc B) (hI:TInv T) (from_:Int) (old path:ByteArray) :
 Calls Tryz.prog 16 #[.pointer (some ⟨t,0,none⟩),.int .i64 from_,.string old,.string path] w (Done p S0 w0 t v b d m T (linkT m T from_ old path) B):=by
 have HA:=talive_calls h hB
 obtain ⟨mk,hmk⟩:∃ mk,mk = linkT m T from_ old path:=⟨_,rfl⟩
 rw [<- hmk]
 obtain ⟨g1,g2⟩:=walk_find (T:=T) from_ old
 have hfok:=findT_ok hI (from_:=from_) (path:=old)
 have hsum:=h.sum
 have HA:=hid HA
 have HB:=hid hB
 have HI:=hid hI
 have HG1:=hid g1
 have HG2:=hid g2
 have HSUM:=hid hsum
 have HFOK:=hid hfok
 have HMK0:=hid hmk
 clear h hB hI hsum g1 g2 hfok hmk
 go_enter Tryz.func16,Tryz.ntmps16
 go_wp2_with fail
 refine HA.out.mono ?_
 rintro e w1 ⟨rfl,V1⟩
 have HW:=hid (twalk_calls V1 HB.out HI.out from_ old 0 (Nat.zero_le _))
 clear V1 HA
 go_wp2_with fail
 refine HW.out.mono ?_
 rintro e w2 (⟨hne,rfl,V2⟩ | ⟨h0,a,o,_,rfl,V2⟩)
 ·obtain ⟨fE,hfE⟩:∃ fE,fE = (walkT T from_ old 0).2.2:=⟨_,rfl⟩
  rw [<- hfE] at hne ⊢
  have hm1:mk = (fE,T):=by
   rw [HMK0.out]
   unfold linkT
   simp only [if_pos (show (findT T from_ old).2 ≠ 0 by rw [<- HG2.out,<- hfE];exact hne)]
   rw [<- HG2.out,<- hfE]
  subst hm1
  have b0:(fE != 0) = true:=by simpa using hne
  have HV:=hid V2
  clear V2 hne HW hfE
  go_wp2_with fail
  go_ret
  exact .inl ⟨rfl,p,id,HV.out⟩
 have hf0:(findT T from_ old).2 = 0:=HG2.out.symm.trans h0
 obtain ⟨k,hk⟩:∃ k,k = (walkT T from_ old 0).1:=⟨_,rfl⟩
 have hkf:(findT T from_ old).1 = k:=by rw [hk];exact HG1.out.symm
 rw [<- hk]
 obtain ⟨hk32,hk0⟩:=HFOK.out hf0
 rw [hkf] at hk32 hk0
 have V3:TV p S0 w0 t v b d m T B w2:=V2.map fun _ _ h=>star_less h
 have HD:=tisdir_calls V3 HB.out k
 rw [adir_vol] at HD
 have hisd:isDirT T k = decide ((T k).kind = 2):=by
  unfold isDirT
  rw [decide_eq_decide]
  constructor
  ·rintro ⟨_,_,h⟩;exact h
  ·intro h;exact ⟨by omega,by omega,h⟩
 rw [hisd] at HD
 have HF0:=hid hf0
 have HKF:=hid hkf
 have HK32:=hid hk32
 have HK0:=hid hk0
 clear h0 V2 V3 hf0 hkf hk hk32 hk0 hisd HW
 by_cases hk2:(T k).kind = 2
 ·rw [decide_eq_true hk2] at HD
  have HD:=hid HD
  have hm1:mk = (10,T):=by
   rw [HMK0.out]
   unfold linkT
   simp only [if_neg (not_not_intro HF0.out),HKF.out,if_pos hk2]
  subst hm1
  clear hk2
  go_wp2_with fail
  refine HD.out.mono ?_
  rintro e w3 ⟨rfl,V3⟩
  have HV:=hid V3
  clear V3 HD
  go_wp2_with fail
  go_ret
  exact .inl ⟨rfl,p,id,HV.out⟩
 rw [decide_eq_false hk2] at HD
 have HD:=hid HD
 have HK2:=hid hk2
 have HMK:=hid (HMK0.out.trans (link_is HF0.out (by rw [HKF.out];exact hk2)))
 rw [HKF.out] at HMK
 clear hk2
 go_wp2_with fail
 refine HD.out.mono ?_
 rintro e w3 ⟨rfl,V3⟩
 have HF:=hid (tfresh_calls V3 HB.out HI.out from_ path)
 have HFO:=hid (fresh_ok HI.out (from_:=from_) (path:=path))
 obtain ⟨r1,hr1⟩:∃ r1,r1 = (lastT T from_ path).1:=⟨_,rfl⟩
 obtain ⟨r2,hr2⟩:∃ r2,r2 = (lastT T from_ path).2.1:=⟨_,rfl⟩
 obtain ⟨fE,hfE⟩:∃ fE,fE = freshE T (lastT T from_ path):=⟨_,rfl⟩
 rw [<- hr1,<- hr2,<- hfE] at HF HMK HFO
 clear V3 HD hr1 hr2 hfE
 by_cases hf0:fE = 0
 ·subst hf0
  obtain ⟨o1,o2,o3,o4⟩:=HFO.out rfl
  have O1:=hid o1
  have O2:=hid o2
  have O3:=hid o3
  have O4:=hid o4
  clear o1 o2 o3 o4
  have HM2:Hid (mk = if (T k).links = 255 then (15,T) else if fitsT m (linkU T k r1 r2) then (0,linkU T k r1 r2) else (4,T)):=hid (by rw [HMK.out,if_neg (fun h=>h rfl)])
  clear HMK
  go_wp2_with fail
  refine HF.out.mono ?_
  rintro e w4 ⟨rfl,V4⟩
  have k4:=V4.blk.cell (j:=1) rfl
  have hlk:=t_link V4 (loc_star (loc_blk _ _ _) HB.out) (by omega) k 1
  by_cases h255:(T k).links = 255
  ·have hE:=linkT_full HK32.out HK0.out h255
   rw [hE,alink_full hE] at hlk
   have HLK:=hid hlk
   have hm1:mk = (15,T):=by rw [HM2.out,if_pos h255]
   subst hm1
   clear hlk V4 HF hE h255
   go_wp2_with fail
   refine HLK.out.mono ?_
   rintro e w5 ⟨rfl,V5⟩
   have HE:=hid (tends_bad V5 HB.out (x:=15) (by decide))
   clear V5 HLK
   go_wp2_with fail
   refine HE.out.mono ?_
   rintro e w9 ⟨rfl,V9⟩
   have HV9:=hid V9
   clear V9 HE
   go_wp2_with fail
   go_ret
   exact .inl ⟨rfl,p,id,HV9.out⟩
  ·obtain ⟨U,hU⟩:∃ U,U = setT T k { T k with links:=(T k).links + 1 }:=⟨_,rfl⟩
   have hs255:=HI.out.small k HK32.out
   obtain ⟨n1,n2⟩:=link_vol (T:=T) HK32.out HK0.out (by_:=1) (by omega) (by omega) (by omega) (by omega)
   have n3:alink (volT T) false k 1 = volT U:=by
    rw [n2,hU,show ((T k).links + 1:Int).toNat = (T k).links + 1 by omega]
   rw [n1,n3] at hlk
   have HLK:=hid hlk
   have hkd1:(T k).kind = 1:=by have:=HI.out.kind k HK32.out;have:=HK0.out;have:=HK2.out;omega
   have hdk:r1 ≠ k:=fun e=>by have:=O2.out;rw [e] at this;omega
   have hUr:U r1 = T r1:=by rw [hU];exact setT_other T _ hdk
   have HDU:Hid (DirOk U r1):=hid ⟨O1.out,by rw [hUr];exact O2.out,by rw [hUr];exact HI.out.slots O1.out O2.out,by rw [hUr];exact HI.out.size r1 O1.out O2.out⟩
   have HUU:Hid ((U r1).up < 32):=hid (by rw [hUr];exact (HI.out.up r1 O1.out O2.out).1)
   have HSO:Hid (SlotOk (some (k,r2))):=hid ⟨HK32.out,O3.out⟩
   have HNM:Hid (r2.size <= 14):=hid (named_size O3.out)
   have HHELD:Hid (∀ j,j < 32 -> (linkU T k r1 r2 j).held = (T j).held):=hid fun j _=>held_link T hdk j
   have hlw:=link_law HI.out O1.out O2.out HK32.out hkd1 O3.out HSUM.out
   rw [<- hU] at hlw
   have HLAW:=hid hlw
   have HU:=hid hU
   have HM3:Hid (mk = if fitsT m (linkU T k r1 r2) then (0,linkU T k r1 r2) else (4,T)):=hid (by rw [HM2.out,if_neg h255])
   clear hlk V4 HF h255 n1 n2 n3 hkd1 hdk hUr hlw hU hs255 HM2
   go_wp2_with fail
   refine HLK.out.mono ?_
   rintro e w5 ⟨rfl,VU⟩
   obtain ⟨sx,hsx⟩:∃ sx,areadB (volT U) r1 0 2368 = sx:=⟨_,rfl⟩
   have HAD:=tadd_calls (n:=(r1:Nat)) VU (by omega) HB.out hsx k r2 (by have:=HK32.out;omega) HNM.out
   rw [add_vol HDU.out HUU.out hsx (k,r2)] at HAD
   have hgo:=add_go (m:=m) HDU.out HUU.out hsx HSO.out
   have hput:putT U r1 (k,r2) = linkU T k r1 r2:=by rw [HU.out];rfl
   rw [hput] at hgo
   rw [hgo] at HAD
   obtain ⟨aE,haE⟩:∃ aE,aE = addE m U r1 (k,r2):=⟨_,rfl⟩
   rw [<- haE] at HAD
   have HAE:=hid haE
   have HAD:=hid HAD
   clear VU hsx haE hgo hput HLK k4
   by_cases ha0:aE = 0
   ·have hmk:mk = (0,linkU T k r1 r2):=by rw [HM3.out,if_pos (HLAW.out.2.2 (by rw [<- HAE.out];exact ha0))]
    subst hmk
    have HAD2:=HAD.out
    rw [if_neg (by rw [ha0];decide),if_pos ha0,ha0] at HAD2
    have HAD2:=hid HAD2
    clear ha0 HAD
    go_wp2_with fail
    refine HAD2.out.mono ?_
    rintro e w8 ⟨rfl,V8⟩
    have HE:=hid (tends_ok V8 HB.out)
    clear V8 HAD2
    go_wp2_with fail
    refine HE.out.mono ?_
    intro e w9 hE
    have hD:=hE.done (U:=T) (T':=linkU T k r1 r2) HHELD.out
    obtain ⟨x,rfl⟩:=hD.val
    have HD9:=hid hD
    clear hE hD HE
    go_wp2_with fail
    go_ret
    exact HD9.out
   ·have hmk:mk = (4,T):=by rw [HM3.out,if_neg (fun hc=>ha0 (by rw [HAE.out];exact HLAW.out.2.1 hc))]
    subst hmk
    have HAD2:=HAD.out
    rw [if_neg ha0] at HAD2
    have h4:(if aE = 15 then (4:Int) else aE) = 4:=by
     rcases HLAW.out.1 with h | h | h
     ·rw [<- HAE.out] at h;exact absurd h ha0
     ·rw [<- HAE.out] at h;rw [if_neg (by omega),h]
     ·rw [<- HAE.out] at h;rw [if_pos h]
    rw [h4] at HAD2
    have HAD2:=hid HAD2
    clear ha0 HAD h4
    go_wp2_with fail
    refine HAD2.out.mono ?_
    rintro e w8 ⟨rfl,V8⟩
    have HE:=hid (tends_bad V8 HB.out (x:=4) (by decide))
    clear V8 HAD2
    go_wp2_with fail
    refine HE.out.mono ?_
    rintro e w9 ⟨rfl,V9⟩
    have HV9:=hid V9
    clear V9 HE
    go_wp2_with fail
    go_ret
    exact .inl ⟨rfl,p,id,HV9.out⟩
 ·have hm1:mk = (fE,T):=by rw [HMK.out,if_pos hf0]
  subst hm1
  have b0:(fE != 0) = true:=by simpa using hf0
  clear hf0 HMK
  go_wp2_with fail
  refine HF.out.mono ?_
  rintro e w4 ⟨rfl,V4⟩
  have HV:=hid V4
  clear V4 HF
  go_wp2_with fail
  go_ret
  exact .inl ⟨rfl,p,id,HV.out⟩
end
end
section
open Go.RowKit Go.Shelf
attribute [local go_sem] Oper.semAt_some
theorem wpListIn_append_mine {F:Fence} {fu:Nat} {P:Program} {w:World} {ops:Array Oper} {rest:List Oper} {o:Oper} {a:Act} {Q:Exit -> Act -> World -> Prop} (hgd:o.guard = none) {s x:Operand} {t e:TypeId} {size bytes:Nat}
 (ho:o.op = .call { callee:=.builtin .append,args:=#[s,x],argTypes:=#[t,t] }) (hT:RowT P t e size bytes) {v:Value} {n:Nat} {xs:List Value} (hs:a.eval s = v) (hown:w.ownsRow 0 e size v n xs)
 {src:Value} {m:Nat} {news:List Value} (hx:a.eval x = src) (hsrc:Srcs w src m size news) (hbytes:(n + m) * bytes <= 140737488355328)
 (h:∀ v' w',w'.ownsRow 0 e size v' (n + m) (xs ++ news) -> Fr (fun k=>v.ownBlock = some k) w w' -> (∀ k,v'.ownBlock = some k -> v.ownBlock = some k \/ w.heap.size <= k) -> (v' = .slice none 0 0 ↔ v = .slice none 0 0 /\ m = 0) ->
  wpListIn F fu P ops Q rest (a.put o.dst v') w'):wpListIn F fu P ops Q (o :: rest) a w:=by
 refine wpListIn_plain hgd fun K hK=>?_
 obtain ⟨v',w',hr,h2,h3,h4,h5⟩:=run_append_mine (P:=P) (ty:=o.type) hT hown hsrc hbytes
 unfold Oper.wpIn
 refine ⟨?_,?_⟩
 ·simp [Oper.about,ho,resolve,Target.leads,Sem.run_pure]
 ·rw [Oper.semAt_plain F _ _ (by rw [ho];intro c hc';cases hc')]
  simp only [execOp,ho,resolve,invoke,builtin,Sem.run_bind,Sem.run_pure,Result.andThen_ok,List.map_toArray,List.map_cons,List.map_nil,hs,hx,hr]
  exact hK _ _ (h v' w' h2 h3 h4 h5)
abbrev tStrs:Nat:=43
def outA (r:Nat) (l:List ByteArray):Asr:=fun w S=>∃ v,Star (blkA r tStrs [v]) (rowA tStrT 1 v l.length (strsT l)) w S
theorem loc_out (r:Nat) (l:List ByteArray):Loc (outA r l):=fun w w' S T ⟨v,h⟩ hf hT=>⟨v,loc_star (loc_blk _ _ _) (loc_row _ _ _ _ _) w w' S T h hf hT⟩
theorem namesB_no {s:ByteArray} {k:Nat} (h:isE s k = false):namesB s (k + 1) = namesB s k:=by
 show namesB s k ++ (if isE s k then _ else _) = _
 rw [h]
 exact List.append_nil _
theorem namesB_yes {s:ByteArray} {k:Nat} (h:isE s k = true):namesB s (k + 1) = namesB s k ++ [entS s k]:=by
 show namesB s k ++ (if isE s k then _ else _) = _
 rw [h]
 rfl
theorem namesB_len (s:ByteArray) (k:Nat):(namesB s k).length <= k:=by
 induction k with
 | zero=>exact Nat.le_refl _
 | succ k ih =>
  show (namesB s k ++ (if isE s k then _ else _)).length <= _
  rw [List.length_append]
  split <;> simp <;> omega
section
variable {S0:Nat -> Prop} {w0 w w':World} {t v b d m c bt bn:Nat} {p n:Int} {A A0:Nat -> Node} {T:Tr} {B R C C':Asr}
theorem EA.out {r:Nat} {l:List ByteArray} (h:Lv S0 w0 (Star R (EA c p v b d m A A0 t bt bn T n (Star (outA r l) B))) w) :
 ∃ u,Lv S0 w0 (Star R (EA c p v b d m A A0 t bt bn T n (Star (blkA r tStrs [u]) (Star (rowA tStrT 1 u l.length (strsT l)) B)))) w:=by
 obtain ⟨U,⟨S,S',⟨u,h1⟩,h2⟩,h3⟩:=h.map fun _ h=>star_f5 h
 refine ⟨u,?_⟩
 have h4:Lv S0 w0 (Star (Star (blkA r tStrs [u]) (rowA tStrT 1 u l.length (strsT l))) (Star R (EA c p v b d m A A0 t bt bn T n B))) w:=⟨U,⟨S,S',h1,h2⟩,h3⟩
 exact EA.map (h4.map fun _ h=>star_b5 h) fun _ h=>star_assoc h
theorem EA.into {r:Nat} {l:List ByteArray} {u:Value} (h:Lv S0 w0 (Star R (EA c p v b d m A A0 t bt bn T n (Star (blkA r tStrs [u]) (Star (rowA tStrT 1 u l.length (strsT l)) B)))) w) :
 Lv S0 w0 (Star R (EA c p v b d m A A0 t bt bn T n (Star (outA r l) B))) w:=by
 have h1:Lv S0 w0 (Star R (EA c p v b d m A A0 t bt bn T n (Star (Star (blkA r tStrs [u]) (rowA tStrT 1 u l.length (strsT l))) B))) w:=EA.map h fun _ h=>star_assoc' h
 exact EA.map h1 fun S h=>star_left h fun _ h=>⟨u,h⟩
theorem EA.row {r:Nat} {l:List ByteArray} {u:Value} (h:Lv S0 w0 (Star R (EA c p v b d m A A0 t bt bn T n (Star (blkA r tStrs [u]) (Star (rowA tStrT 1 u l.length (strsT l)) B)))) w) :
 w.ownsRow 0 tStrT 1 u l.length (strsT l):=by
 obtain ⟨_,_,_,_,⟨_,_,h1,_⟩,_⟩:=EA.rest h
 exact h1.1
theorem tlist_calls (h:VT c p S0 w0 v b d m (volT T) A0 (Star (trA t b v T) B) w) (hB:Loc B) (hI:TInv T) (n:Int) :
 Calls Tryz.prog 20 #[.pointer (some ⟨t,0,none⟩),.int .i64 n] w fun e w'=>∃ u,e = .returned (.tuple #[u,.int .i64 (listE T n)]) /\ VT c p S0 w0 v b d m (volT T) A0 (Star (trA t b v T) (Star (rowA tStrT 1 u (listT T n).length (strsT (listT T n))) B)) w':=by
 refine (callsIn_wide (n:=3)).1 ?_
 have HS:=tstat_calls h hB n
 obtain ⟨x0,x1,x2,hx,hx0⟩:=astat_is (volT T) n
 rw [hx,find_vol] at HS
 rw [find_vol] at hx0
 replace HS:=hid HS
 have HB:=hid hB
 have HI:=hid hI
 obtain ⟨gE,hgE⟩:∃ x,x = tfindE T n:=⟨_,rfl⟩
 rw [<- hgE] at HS hx0
 have hbad:∀ e0:Int,e0 ≠ 0 -> listE T n = e0 -> ∀ (q:Nat) (ST:Asr) (W:World),VT c p S0 w0 v b d m (volT T) A0 (Star (trA t b v T) (Star ST B)) W ->
  ∃ u,Ending.returned (.tuple #[.slice none 0 0,.int .i64 e0]) = .returned (.tuple #[u,.int .i64 (listE T n)]) /\ VT c p S0 w0 v b d m (volT T) A0 (Star (trA t b v T) (Star (rowA tStrT 1 u (listT T n).length (strsT (listT T n))) B)) W:=by
  intro e0 h0 he q ST W hV
  refine ⟨.slice none 0 0,by rw [he],?_⟩
  have hl:listT T n = []:=by unfold listT;rw [if_pos (by rw [he];exact h0)]
  rw [hl]
  exact hV.map fun _ _ h=>star_right h fun S h=>by
   obtain ⟨S1,S2,_,hB,_,_,h5⟩:=h
   exact ⟨Nob,S2,⟨⟨rfl,.inl ⟨rfl,rfl⟩⟩,fun k hk=>by cases hk⟩,hB,fun _ h=>h.elim,fun _ h=>h.elim,h5⟩
 have HBAD:=hid hbad
 clear h hB hx hI hbad
 refine callsIn_of_wp_marks Tryz.func20 rfl trivial ?_ rfl
 simp only [Tryz.ntmps20,List.size_toArray,List.length_cons,List.length_nil,Nat.reduceAdd,Nat.reduceSub,Array.replicate_succ,Array.replicate_zero,List.push_toArray,List.append_toArray,List.nil_append,List.cons_append]
 rw [wpIn_wide]
 by_cases h0:gE = 0
 ·have e0:(gE != 0) = false:=by simpa using h0
  obtain ⟨a,b',c'⟩:=tfind_iff.1 (hgE.symm.trans h0)
  have hk0:x0 = ((T n.toNat).kind:Int):=by
   rw [(hx0 h0).1]
   show ((nodeT (T n.toNat)).kind:Int) = _
   rw [nodeT_some c']
  by_cases h2:(T n.toNat).kind = 2
  ·have hx2:x0 = 2:=by rw [hk0,h2];rfl
   have key:∃ s,s.size <= 2368 /\ areadB (volT T) n 0 2368 = s /\ listT T n = namesB s (s.size / 16) /\ listE T n = 0:=by
    obtain ⟨k0,rfl⟩:∃ k:Nat,n = k:=⟨n.toNat,by omega⟩
    have hE0:listE T k0 = 0:=by unfold listE;rw [<- hgE,h0,if_neg (fun h=>h rfl),if_neg (fun h=>h h2)]
    rw [Int.toNat_natCast] at h2
    have hD:DirOk T k0:=HI.out.toTShape.dirOk (by omega) h2
    refine ⟨areadB (volT T) k0 0 2368,areadB_size (volT T) k0,rfl,?_,hE0⟩
    unfold listT
    rw [hE0,if_neg (fun h=>h rfl)]
    rw [Int.toNat_natCast,dir_size hD,Nat.mul_div_cancel_left _ (by omega)]
    exact (names_dir (dir_read hD) hD.slots).symm
   obtain ⟨s,h2368,hs,hnm,hE0⟩:=key
   have HNM:=hid hnm
   have HE0:=hid hE0
   have HRS:=hid hs
   have HZ:=hid h2368
   subst hx2
   clear hnm hE0 hs h2368 hk0 h2 hx0 hgE a b' c'
   go_wp2_with fail
   refine HS.out.mono ?_
   rintro e w1 ⟨rfl,V1⟩
   have VQ:=(V1.box (loc_star (loc_blk _ _ _) HB.out) tStat9 [.int .i64 2,.int .i64 x1,.int .i64 x2]).flip
   have HS2:=EA.start (e:=tStrs) (cs:=[.slice none 0 0]) (n:=n) VQ (loc_star (loc_blk _ _ _) HB.out)
   simp only [World.size_alloc] at HS2
   replace HS2:=hid HS2
   clear V1 HS VQ HBAD
   go_wp2_with fail
   refine (tentries_calls _ _ _).mono ?_
   rintro e w2 ⟨rfl,rfl⟩
   go_wp2_with fail
   generalize hWW:((((w1.alloc (.cells #[.int .i64 2,.int .i64 x1,.int .i64 x2] tStat9)).alloc (.cells #[.slice none 0 0] tStrs)).alloc (.cells #[.pointer (some ⟨t,0,none⟩)] tPTree)).alloc (.cells #[.int .i64 n] tInt)) = W0
   obtain ⟨q,hq⟩:∃ q,q = w1.heap.size:=⟨_,rfl⟩
   obtain ⟨r,hr⟩:∃ r,r = w1.heap.size + 1:=⟨_,rfl⟩
   have HW0:Hid (Lv S0 w0 (EA c p v b d m (volT T) A0 t (r + 1) (r + 1 + 1) T n (Star (outA r (namesB s 0)) (Star (blkA q tStat9 [.int .i64 2,.int .i64 x1,.int .i64 x2]) B))) W0):=by
    rw [hr,hq,<- hWW]
    exact hid (HS2.out.map fun _ h=>star_right h fun _ h=>star_right h fun _ h=>star_right h fun _ h=>star_right h fun _ h=>star_left h fun S h=>⟨_,S,Nob,h,⟨⟨rfl,.inl ⟨rfl,rfl⟩⟩,fun k hk=>by cases hk⟩,fun _ _ h=>h.elim,fun _ h=>h,fun _ h=>h.elim⟩)
   rw [<- hr,<- hq]
   clear HS2 hWW hr hq
   rw [<- wpIn_wide (n:=3)]
   refine wpIn_range_lvx (S0:=S0) (w0:=w0) (F:=Fence.wide) (n:=3) rfl (by omega) (gf:=115) (lb:=#[.pointer (some ⟨r + 1,0,none⟩),.pointer (some ⟨r + 1 + 1,0,none⟩)]) rfl trivial (enters_of Tryz.func115 (by kernel_rfl) rfl)
    (fun k=>EA c p v b d m (volT T) A0 t (r + 1) (r + 1 + 1) T n (Star (outA r (namesB s k)) (Star (blkA q tStat9 [.int .i64 2,.int .i64 x1,.int .i64 x2]) B)))
    (fun _ _=>Wth False Emp)
    (fun _=>loc_EA (loc_star (loc_out _ _) (loc_star (loc_blk _ _ _) HB.out))) (fun _ _=>loc_wth _ loc_emp) (s.size / 16)
    (fun k=>#[.int .i64 (16 * k:Nat),.agg #[.int .i64 (entI s k),.string (entS s k)]]) (fun _=>rfl)
    (fun x k=>{ tmps:=#[.pointer (some ⟨t,0,none⟩),.int .i64 n,undef,undef,.slice none 0 0,.int .i64 0,.pointer (some ⟨q,0,none⟩),.int .i64 0,.pointer (some ⟨r,0,none⟩),.int .i64 (16 * k:Nat),.pointer (some ⟨x,0,none⟩),.tuple #[.agg #[.int .i64 2,.int .i64 x1,.int .i64 x2],.int .i64 0],.pointer (some ⟨t,0,none⟩),.int .i64 n,.tuple #[.agg #[.int .i64 2,.int .i64 x1,.int .i64 x2],.int .i64 0],.agg #[.int .i64 2,.int .i64 x1,.int .i64 x2],.int .i64 0,.bool false,.int .i64 0,.bool false,undef,.bool false,.pointer (some ⟨q,0,none⟩),.int .i64 2,.bool false,.pointer (some ⟨t,0,none⟩),.int .i64 n,.func (.func 115) #[] #[.pointer (some ⟨r + 1,0,none⟩),.pointer (some ⟨r + 1 + 1,0,none⟩)],.int .i64 (16 * k:Nat),.agg #[.int .i64 (entI s k),.string (entS s k)],undef,undef,undef,undef,undef,undef,undef,undef,undef,undef,undef,undef,undef],defers:=[] })
    (fun x k=>Star (blkA x tEnt [.int .i64 (entI s k),.string (entS s k)]) (EA c p v b d m (volT T) A0 t (r + 1) (r + 1 + 1) T n (Star (outA r (namesB s k)) (Star (blkA q tStat9 [.int .i64 2,.int .i64 x1,.int .i64 x2]) B))))
    (fun _ _=>loc_star (loc_blk _ _ _) (loc_EA (loc_star (loc_out _ _) (loc_star (loc_blk _ _ _) HB.out)))) HW0.out ?seq ?assign ?body ?done ?stop
   case seq =>
    intro l R St W hR hY hW
    have h9:=tents1_calls (S0:=S0) (w0:=w0) (c:=c) (p:=p) (v:=v) (b:=b) (d:=d) (m:=m) (A0:=A0) (t:=t) (T:=T) (bt:=r + 1) (bn:=r + 1 + 1) (N:=s.size / 16) HRS.out rfl HZ.out (fun k=>(Star (outA r (namesB s k)) (Star (blkA q tStat9 [.int .i64 2,.int .i64 x1,.int .i64 x2]) B))) (fun _=>loc_star (loc_out _ _) (loc_star (loc_blk _ _ _) HB.out)) l R St W hR
    exact h9 hY hW
   case assign =>
    intro l R k W K hR hk hl hK
    have HKK:=hid hK
    have HLL:=hid hl
    have HRR:=hid hR
    clear hK hl hk hR
    gi_wp2
    have hL:=Lv.box HLL.out (loc_star HRR.out (loc_EA (loc_star (loc_out _ _) (loc_star (loc_blk _ _ _) HB.out)))) tEnt [.int .i64 (entI s k),.string (entS s k)]
    obtain ⟨x,hx⟩:∃ x,x = W.heap.size:=⟨_,rfl⟩
    rw [<- hx] at hL ⊢
    exact HKK.out x _ (hL.map fun _ h=>star_flip h)
   case body =>
    intro l R k x W hR hk hl
    have hx:=EA.box hl
    have hl2:=EA.less hl
    have HL2:=hid hl2
    have HRR:=hid hR
    obtain ⟨eI,heI⟩:∃ eI,eI = entI s k:=⟨_,rfl⟩
    obtain ⟨eS,heS⟩:∃ eS,eS = entS s k:=⟨_,rfl⟩
    rw [<- heI,<- heS] at hx ⊢
    have q0:=hx.cell (j:=0) rfl
    have q1:=hx.cell (j:=1) rfl
    have HEI:=hid heI
    have HES:=hid heS
    have HKN:=hid hk
    clear hx hl hl2 hR heI heS hk
    have hno:isE s k = false -> Lv S0 w0 (Star R (EA c p v b d m (volT T) A0 t (r + 1) (r + 1 + 1) T n (Star (outA r (namesB s (k + 1))) (Star (blkA q tStat9 [.int .i64 2,.int .i64 x1,.int .i64 x2]) B)))) W:=fun hf=>by rw [namesB_no hf];exact HL2.out
    have HNO:=hid hno
    clear hno
    by_cases h0:k = 0
    ·have HF:=hid (HNO.out (decide_eq_false (by omega)))
     subst h0
     gi_wp2
     exact .inl HF.out
    ·have hpos:(0:Int) < 16 * (k:Int):=by omega
     have H0:=hid h0
     clear h0
     by_cases hge:0 <= eI
     ·have HGE:=hid hge
      have HYE:=hid (namesB_yes (s:=s) (k:=k) (decide_eq_true ⟨by have:=H0.out;omega,by rw [<- HEI.out];exact hge⟩))
      obtain ⟨u,hu⟩:=EA.out HL2.out
      have r0:=(EA.blk hu).cell (j:=0) rfl
      have fr0:=(EA.blk hu).free 0
      have HU:=hid hu
      have HO:=hid (EA.row hu)
      have HLN:=hid (namesB_len s k)
      clear hu HNO
      have HLA:=hid (loc_EA (c:=c) (p:=p) (v:=v) (b:=b) (d:=d) (m:=m) (A:=volT T) (A0:=A0) (t:=t) (bt:=r + 1) (bn:=r + 1 + 1) (T:=T) (n:=n) (loc_star (loc_blk r tStrs [u]) (loc_star (loc_row tStrT 1 u (namesB s k).length (strsT (namesB s k))) (loc_star (loc_blk q tStat9 [.int .i64 2,.int .i64 x1,.int .i64 x2]) HB.out))))
      gi_wp2_with (gi_at_builtin;refine wpListIn_append_mine rfl (ho:=rfl) (s:=.tmp 37) (x:=.tmp 40) Tryz.rowStr rfl (HO.out.alloc _) rfl (srcs_one W _ _ 1 rfl) (by have:=HLN.out;have:=HKN.out;have:=HZ.out;omega) ?_;intro v' w3 hown3 hf3 hv3 _;obtain ⟨g',cap',rfl⟩:=row_succ hown3;have hL3:=EA.swap (EA.turn (EA.swap (HU.out.keep (loc_star HRR.out HLA.out) ((Fr.refl _ _).alloc (.cells #[.string eS] tStrT)))) HRR.out (loc_star (loc_blk _ _ _) (loc_star (loc_blk _ _ _) HB.out)) (turn_append hown3 hf3 hv3));have fr3:=(EA.blk hL3).free 0;have cr3:=(EA.blk hL3).cell (j:=0) rfl;have HL3:=hid hL3;clear hL3 hown3 hf3 hv3)
      refine .inl ?_
      have hL4:=EA.turn HL3.out HRR.out (loc_star (loc_row _ _ _ _ _) (loc_star (loc_blk _ _ _) HB.out)) (turn_blk 0 (.slice (some ⟨g',0,none⟩) ((namesB s k).length + 1) cap'))
      rw [HYE.out]
      refine EA.into (u:=.slice (some ⟨g',0,none⟩) ((namesB s k).length + 1) cap') ?_
      rw [List.length_append,show strsT (namesB s k ++ [entS s k]) = strsT (namesB s k) ++ [.string eS] by rw [HES.out];exact List.map_append]
      exact hL4
     ·have HF:=hid (HNO.out (decide_eq_false fun ⟨_,h⟩=>hge (by rw [HEI.out];exact h)))
      gi_wp2
      exact .inl HF.out
   case stop =>
    intro D c' k W hk hl
    obtain ⟨_,hp⟩:=hl.second
    exact hp.1.elim
   case done =>
    intro D W hl
    obtain ⟨u,hu⟩:=EA.out hl
    have r0:=(EA.blk hu).cell (j:=0) rfl
    have HU:=hid hu
    clear hl hu
    go_wp2_with fail
    refine ⟨by simp,.inl ⟨_,_,rfl,run_takeDeferred HU.out.def_at,?_⟩⟩
    have hV:=EA.fin HU.out (loc_blk _ _ _) (loc_star (loc_row _ _ _ _ _) (loc_star (loc_blk _ _ _) HB.out))
    refine ⟨.tuple #[u,.int .i64 0],by simp [results,Tryz.f20],u,by rw [HE0.out],?_⟩
    rw [HNM.out]
    exact hV.map fun _ _ h=>star_right h fun _ h=>star_less h
  ·have hx2:(x0 != 2) = true:=by rw [bne_iff_ne,hk0];omega
   have hE0:listE T n = 11:=by unfold listE;rw [<- hgE,h0,if_neg (fun h=>h rfl),if_pos h2]
   have HE0:=hid hE0
   clear hE0 h2 hk0 hx0 hgE a b' c'
   go_wp2_with fail
   refine HS.out.mono ?_
   rintro e w1 ⟨rfl,V1⟩
   have VQ:=(V1.box (loc_star (loc_blk _ _ _) HB.out) tStat9 [.int .i64 x0,.int .i64 x1,.int .i64 x2]).flip
   have q0:=(VT.flip VQ).blk.cell (j:=0) rfl
   have HV:=hid VQ
   clear V1 HS VQ
   go_wp2_with fail
   exact ⟨.tuple #[.slice none 0 0,.int .i64 11],by simp [results,Tryz.f20],HBAD.out 11 (by decide) HE0.out 0 _ _ HV.out⟩
 ·have e0:(gE != 0) = true:=by simpa using h0
  have hE0:listE T n = gE:=by unfold listE;rw [<- hgE,if_pos h0]
  have HE0:=hid hE0
  have H0:=hid h0
  clear hE0 hgE hx0 h0
  go_wp2_with fail
  refine HS.out.mono ?_
  rintro e w1 ⟨rfl,V1⟩
  have VQ:=(V1.box (loc_star (loc_blk _ _ _) HB.out) tStat9 [.int .i64 x0,.int .i64 x1,.int .i64 x2]).flip
  have HV:=hid VQ
  clear V1 HS VQ
  go_wp2_with fail
  exact ⟨.tuple #[.slice none 0 0,.int .i64 gE],by simp [results,Tryz.f20],HBAD.out gE H0.out HE0.out 0 _ _ HV.out⟩
end
end
section
variable {S0:Nat -> Prop} {w0 w:World} {t v b d m c:Nat} {p:Int} {A A0:Nat -> Node} {T:Tr} {B R:Asr}
end
end Go.Proofs.YtngalllaiphkhaaGreatDoor
