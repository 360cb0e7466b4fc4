import Derived.Test.YtngalllaiphkhaaGreatDoorZTE
namespace Go.Proofs.YtngalllaiphkhaaGreatDoor
open Go.RowKit
open Go.Lib (hid)
set_option maxRecDepth 100000
set_option maxHeartbeats 16000000
set_option linter.unusedVariables false
set_option linter.unusedSimpArgs false
section
variable {S0:Nat -> Prop} {w0 w w':World} {t v b d m c:Nat} {p:Int} {A A0:Nat -> Node} {T:Tr} {B R R':Asr}
theorem VT.out (h:VT c p S0 w0 v b d m A A0 (Star R B) w) (hB:Loc B):∃ Z:Asr,Loc Z /\ Lv S0 w0 (Star R Z) w /\ ∀ (w':World) (R':Asr),Lv S0 w0 (Star R' Z) w' -> VT c p S0 w0 v b d m A A0 (Star R' B) w':=by
 obtain ⟨L,H,X,h1,h2⟩:=h
 exact ⟨_,VV.loc hB,VV.out h1,fun w' R' h=>⟨L,H,X,VV.inn h,h2⟩⟩
theorem TV.side {P:Program} {f:FuncId} {args:Array Value} {Q:Ending -> Asr -> Prop} (h:TV p S0 w0 t v b d m T (Star R B) w) (hB:Loc B)
 (hc:∀ Z,Loc Z -> Lv S0 w0 (Star R Z) w -> Calls P f args w fun e w'=>∃ R',Q e R' /\ Lv S0 w0 (Star R' Z) w'):Calls P f args w fun e w'=>∃ R',Q e R' /\ TV p S0 w0 t v b d m T (Star R' B) w':=by
 obtain ⟨Z,h1,h2,h3⟩:=VT.out (VT.flip h) (loc_star (loc_blk _ _ _) hB)
 exact (hc Z h1 h2).mono fun e w' ⟨R',hq,hl⟩=>⟨R',hq,VT.flip (h3 w' R' hl)⟩
theorem star_emp {U:Nat -> Prop} (h:B w U):Star Emp B w U:=⟨Nob,U,trivial,h,fun _ h=>h.elim,fun _ h=>h.elim,fun _ h=>h⟩
theorem TV.more {P:Program} {f:FuncId} {args:Array Value} {Q:Ending -> Asr -> Prop} (h:TV p S0 w0 t v b d m T B w) (hB:Loc B)
 (hc:∀ Z,Loc Z -> Lv S0 w0 Z w -> Calls P f args w fun e w'=>∃ R',Q e R' /\ Lv S0 w0 (Star R' Z) w'):Calls P f args w fun e w'=>∃ R',Q e R' /\ TV p S0 w0 t v b d m T (Star R' B) w':=by
 obtain ⟨Z,h1,h2,h3⟩:=VT.out (R:=Emp) (B:=Star (trA t b v T) B) (h.map fun _ _ h=>star_emp h) (loc_star (loc_blk _ _ _) hB)
 exact (hc Z h1 h2.drop).mono fun e w' ⟨R',hq,hl⟩=>⟨R',hq,VT.flip (h3 w' R' hl)⟩
theorem lfresh_calls (hB:Loc B) (hL:Lv S0 w0 B w) (n:Int) :
 Calls Tryz.prog 37 #[.int .i64 n] w fun e w'=>∃ d t b v r,e = .returned (.tuple #[.pointer (some ⟨d,0,none⟩),.pointer (some ⟨t,0,none⟩),.pointer (some ⟨r,0,none⟩)]) /\ TV (-1) S0 w0 t v b d (freshN n - 32) freshT (Star (docX r (freshN n - 32) freshT) B) w':=by
 obtain ⟨h48,h544⟩:=freshN_le n
 have HFM:Hid (∀ d W,Lv S0 w0 (Star (dskA kD d (DSt.fresh (freshN n))) B) W -> Calls Tryz.prog 33 #[.pointer (some ⟨d,0,none⟩)] W fun e w'=>∃ t b v,e = .returned (.tuple #[.pointer (some ⟨t,0,none⟩),.int .i64 0]) /\ TV (-1) S0 w0 t v b d (freshN n - 32) freshT B w') :=
  hid fun d W hW=>tFormat_calls hW hB
 have HB:=hid hB
 obtain ⟨m,hm⟩:∃ m,m = freshN n:=⟨_,rfl⟩
 rw [<- hm] at h48 h544 HFM ⊢
 have HN:=hid (fun W=>new_ok m W h48 h544)
 obtain ⟨x,hx⟩:∃ x:Int,x = ((m - 32:Nat):Int):=⟨_,rfl⟩
 have HNEW:Hid (∀ (W:World) (d t b v:Nat),TV (-1) S0 w0 t v b d (m - 32) freshT B W -> Calls Tryz.prog 79 #[.int .i64 x] W fun e w'=>∃ r,e = .returned (.pointer (some ⟨r,0,none⟩)) /\ TV (-1) S0 w0 t v b d (m - 32) freshT (Star (docX r (m - 32) freshT) B) w'):=hid fun W d t b v hW=>by
  rw [hx]
  exact (TV.more (Q:=fun e R'=>∃ r,e = .returned (.pointer (some ⟨r,0,none⟩)) /\ R' = docX r (m - 32) freshT) hW hB (fun Z hZ hl=>(dnew_calls hl hZ (m - 32)).mono fun e w' ⟨r,he,h⟩=>⟨_,⟨r,he,rfl⟩,h⟩)).mono fun e w' ⟨R',⟨r,he,hr⟩,h⟩=>⟨r,he,hr ▸ h⟩
 have HL:=hid hL
 unfold freshN at hm
 clear hL hB
 by_cases hbad:n < 48 \/ 544 < n
 ·rw [if_pos hbad] at hm
  subst hm
  replace hx:x = 16:=hx
  obtain ⟨z,hz⟩:∃ z:Int,z = 48:=⟨_,rfl⟩
  have wx:IntKind.i64.wrap (z - 32) = x:=by rw [hz,hx,IntKind.wrap_i64] <;> omega
  clear hx
  have HN:Hid (∀ W:World,Calls Tryz.prog 34 #[.int .i64 z] W fun e w'=>∃ b,e = .returned (.tuple #[.pointer (some ⟨b,0,none⟩),.int .i64 0]) /\ IsDisk w' b (Plus Nob W w') (DSt.fresh 48) /\ Fr Nob W w'):=hid (by rw [hz];exact HN.out)
  have HZ:=hid hz
  clear hz
  by_cases q:n < 48
  ·clear hbad h48 h544
   go_enter Tryz.func37,Tryz.ntmps37
   go_wp2_with fail
   rw [<- HZ.out]
   refine (HN.out _).mono ?_
   rintro e w1 ⟨d,rfl,hd,hf⟩
   have L1:=hid (Lv.new (B:=dskA kD d (DSt.fresh _)) HL.out HB.out hf hd)
   clear hd hf
   have HF:=hid (HFM.out d _ L1.out)
   clear L1
   go_wp2_with fail
   refine HF.out.mono ?_
   rintro e w2 ⟨t,b,v,rfl,V2⟩
   have HW:=hid (HNEW.out w2 d t b v V2)
   clear V2 HF
   go_wp2_with fail
   refine HW.out.mono ?_
   rintro e w3 ⟨r,rfl,V3⟩
   have HV:=hid V3
   clear V3 HW
   go_wp2_with fail
   go_ret3
   exact ⟨d,t,b,v,r,rfl,HV.out⟩
  ·have q2:544 < n:=by omega
   clear hbad h48 h544
   go_enter Tryz.func37,Tryz.ntmps37
   go_wp2_with fail
   rw [<- HZ.out]
   refine (HN.out _).mono ?_
   rintro e w1 ⟨d,rfl,hd,hf⟩
   have L1:=hid (Lv.new (B:=dskA kD d (DSt.fresh _)) HL.out HB.out hf hd)
   clear hd hf
   have HF:=hid (HFM.out d _ L1.out)
   clear L1
   go_wp2_with fail
   refine HF.out.mono ?_
   rintro e w2 ⟨t,b,v,rfl,V2⟩
   have HW:=hid (HNEW.out w2 d t b v V2)
   clear V2 HF
   go_wp2_with fail
   refine HW.out.mono ?_
   rintro e w3 ⟨r,rfl,V3⟩
   have HV:=hid V3
   clear V3 HW
   go_wp2_with fail
   go_ret3
   exact ⟨d,t,b,v,r,rfl,HV.out⟩
 ·rw [if_neg hbad] at hm
  obtain ⟨k,rfl⟩:∃ k:Nat,n = k:=⟨n.toNat,by omega⟩
  rw [Int.toNat_natCast] at hm
  subst hm
  have q:¬ (m:Int) < 48:=by omega
  have q2:¬ 544 < (m:Int):=by omega
  have wx:IntKind.i64.wrap ((m:Int) - 32) = x:=by rw [IntKind.wrap_i64] <;> omega
  clear hbad h48 h544 hx
  go_enter Tryz.func37,Tryz.ntmps37
  go_wp2_with fail
  refine (HN.out _).mono ?_
  rintro e w1 ⟨d,rfl,hd,hf⟩
  have L1:=hid (Lv.new (B:=dskA kD d (DSt.fresh _)) HL.out HB.out hf hd)
  clear hd hf
  have HF:=hid (HFM.out d _ L1.out)
  clear L1
  go_wp2_with fail
  refine HF.out.mono ?_
  rintro e w2 ⟨t,b,v,rfl,V2⟩
  have HW:=hid (HNEW.out w2 d t b v V2)
  clear V2 HF
  go_wp2_with fail
  refine HW.out.mono ?_
  rintro e w3 ⟨r,rfl,V3⟩
  have HV:=hid V3
  clear V3 HW
  go_wp2_with fail
  go_ret3
  exact ⟨d,t,b,v,r,rfl,HV.out⟩
end
def pl:List UInt8 -> List UInt8 -> List (List UInt8)
 | cur,[]=>if cur = [] then [] else [cur]
 | cur,b :: r=>if b = 47 then (if cur = [] then pl [] r else cur :: pl [] r) else pl (cur ++ [b]) r
theorem pl_end:∀ (l cur:List UInt8),pl cur (l ++ [47]) = pl cur l
 | [],cur=>by
  show pl cur [47] = pl cur []
  simp [pl]
 | b :: l,cur=>by
  show pl cur (b :: (l ++ [47])) = pl cur (b :: l)
  simp only [pl,pl_end l]
theorem pl_dot:∀ (l cur:List UInt8),pl cur (l ++ [47,46]) = pl cur l ++ [[46]]
 | [],cur=>by
  show pl cur [47,46] = pl cur [] ++ [[46]]
  by_cases h:cur = [] <;> simp [pl,h]
 | b :: l,cur=>by
  show pl cur (b :: (l ++ [47,46])) = pl cur (b :: l) ++ [[46]]
  simp only [pl,pl_dot l]
  split
  ·split <;> rfl
  ·rfl
theorem pl_here (l:List UInt8):pl [] ([46,47] ++ l) = [46] :: pl [] l:=by simp [pl]
theorem pl_root (l:List UInt8):pl [] ([47,47,46] ++ 47 :: l) = [46] :: pl [] (47 :: l):=by simp [pl]
theorem pl_one:∀ (l cur:List UInt8),(∀ b ∈ l,b ≠ 47) -> cur ++ l ≠ [] -> pl cur l = [cur ++ l]
 | [],cur,_,h=>by simp at h;simp [pl,h]
 | b :: l,cur,hb,_=>by
  have h1:b ≠ 47:=hb b (by simp)
  have:=pl_one l (cur ++ [b]) (fun c hc=>hb c (by simp [hc])) (by simp)
  simp only [pl,if_neg h1,this]
  simp
def mkB (l:List UInt8):ByteArray:=⟨l.toArray⟩
theorem mkB_list (s:ByteArray):mkB s.data.toList = s:=by unfold mkB;rw [Array.toArray_toList]
theorem pl_cut (s:ByteArray):∀ i,i <= s.size -> pl [] s.data.toList = (dcut s i).2.map (fun x=>(s.data.toList.take x.2).drop x.1) ++ pl ((s.data.toList.take i).drop (dcut s i).1) (s.data.toList.drop i)
 | 0,_=>by simp [dcut]
 | i + 1,hi=>by
  have hl:i < s.data.toList.length:=by rw [bytes_len];omega
  have hlt:i < s.size:=by omega
  have ih:=pl_cut s i (by omega)
  have hd:s.data.toList.drop i = s.data.toList[i] :: s.data.toList.drop (i + 1):=by rw [List.drop_eq_getElem_cons hl]
  have ht:s.data.toList.take (i + 1) = s.data.toList.take i ++ [s.data.toList[i]]:=by rw [List.take_add_one,List.getElem?_eq_getElem hl];rfl
  have hb:byteAt s i = (s.data.toList[i]).toNat:=by unfold byteAt;rw [List.getD,List.getElem?_eq_getElem hl];rfl
  have hf:=dcut_le s i
  have hlen:(s.data.toList.take i).length = i:=by rw [List.length_take];omega
  rw [ih,hd]
  by_cases h47:s.data.toList[i] = 47
  ·have hn:¬ (i < s.size /\ byteAt s i ≠ 47):=by rw [hb,h47];simp
   rw [dcut_at hn,pl,if_pos h47]
   show _ = List.map _ (if (dcut s i).1 < i then (dcut s i).2 ++ [((dcut s i).1,i)] else (dcut s i).2) ++ pl ((s.data.toList.take (i + 1)).drop (i + 1)) _
   have hz:(s.data.toList.take (i + 1)).drop (i + 1) = []:=List.drop_eq_nil_of_le (by rw [List.length_take];omega)
   rw [hz]
   by_cases hfi:(dcut s i).1 < i
   ·have hne:(s.data.toList.take i).drop (dcut s i).1 ≠ []:=by
     intro h
     have:=congrArg List.length h
     rw [List.length_drop,hlen] at this
     simp at this
     omega
    rw [if_neg hne,if_pos hfi]
    simp
   ·have he:(s.data.toList.take i).drop (dcut s i).1 = []:=List.drop_eq_nil_of_le (by omega)
    rw [if_pos he,if_neg hfi]
  ·have hn:i < s.size /\ byteAt s i ≠ 47:=⟨hlt,by rw [hb];intro h;exact h47 (UInt8.toNat_inj.1 h)⟩
   rw [dcut_on hn,pl,if_neg h47,ht,List.drop_append_of_le_length (by omega)]
theorem parts_pl (s:ByteArray):partsT s = (pl [] s.data.toList).map mkB:=by
 rw [<- dcut_parts]
 have hs:s.data.toList.length = s.size:=bytes_len s
 have h:=pl_cut s s.size (Nat.le_refl _)
 have hf:=dcut_le s s.size
 have hm:∀ x:Nat × Nat,s.extract x.1 x.2 = mkB ((s.data.toList.take x.2).drop x.1):=fun x=>by rw [<- toList_extract,mkB_list]
 have hz1:s.data.toList.drop s.size = []:=List.drop_eq_nil_of_le (by omega)
 have hz2:s.data.toList.take s.size = s.data.toList:=List.take_of_length_le (by omega)
 rw [hz1,hz2] at h
 rw [h,dcut_at (by omega)]
 by_cases hfi:(dcut s s.size).1 < s.size
 ·have hne:s.data.toList.drop (dcut s s.size).1 ≠ []:=by
   intro h
   have:=congrArg List.length h
   rw [List.length_drop,hs] at this
   simp at this
   omega
  rw [if_pos hfi,pl,if_neg hne]
  simp only [List.map_append,List.map_map,List.map_cons,List.map_nil,hm]
  rw [List.take_of_length_le (by omega)]
  rfl
 ·have he:s.data.toList.drop (dcut s s.size).1 = []:=List.drop_eq_nil_of_le (by omega)
  rw [if_neg hfi,pl,if_pos he,List.append_nil,List.map_map]
  exact List.map_congr_left fun x _=>hm x
section
variable {T:Tr}
theorem along_app:∀ (l k:List ByteArray) (n:Nat),alongT T n (l ++ k) = if (alongT T n l).2 ≠ 0 then (0,(alongT T n l).2) else alongT T (alongT T n l).1 k
 | [],k,n=>by
  show alongT T n k = if (0:Int) ≠ 0 then _ else alongT T n k
  rw [if_neg (by decide)]
 | p :: l,k,n=>by
  rw [List.cons_append,alongT_cons,alongT_cons]
  by_cases h:stepE T n p ≠ 0
  ·rw [if_pos h,if_pos h,if_pos h]
  ·rw [if_neg h,if_neg h]
   exact along_app l k _
theorem along_dot (n:Nat):alongT T n [dot1] = if (T n).kind ≠ 2 then (0,11) else (n,0):=by
 rw [alongT]
 split
 ·rfl
 ·rw [if_pos rfl];rfl
variable {from_:Int} {path q:ByteArray}
theorem begin_same (h0:1 <= path.size) (h1:1 <= q.size) (h2:path.size <= 128) (h3:q.size <= 128) (hz:q.data.toList.contains 0 = path.data.toList.contains 0) (hb:(q.data.toList.getD 0 0 = 47) ↔ (path.data.toList.getD 0 0 = 47)) :
 beginE T from_ q = beginE T from_ path /\ beginN from_ q = beginN from_ path:=by
 unfold beginE beginN
 simp only [hz,hb]
 have e1:(q.size < 1 \/ 128 < q.size \/ path.data.toList.contains 0 = true) ↔ (path.size < 1 \/ 128 < path.size \/ path.data.toList.contains 0 = true):=by
  constructor
  ·rintro (h | h | h)
   ·omega
   ·omega
   ·exact .inr (.inr h)
  ·rintro (h | h | h)
   ·omega
   ·omega
   ·exact .inr (.inr h)
 simp only [e1,and_self]
theorem find_stroke (h0:1 <= path.size) (h1:path.size <= 100) (hq:q.data.toList = path.data.toList ++ [47]):findT T from_ q = findT T from_ path:=by
 have hsq:q.size = path.size + 1:=by have:=congrArg List.length hq;rw [List.length_append,bytes_len,bytes_len] at this;exact this
 have hne:path.data.toList ≠ []:=by intro h;have:=congrArg List.length h;rw [bytes_len,List.length_nil] at this;omega
 obtain ⟨b,l,hbl⟩:=List.exists_cons_of_ne_nil hne
 obtain ⟨e1,e2⟩:=begin_same (T:=T) (from_:=from_) (path:=path) (q:=q) h0 (by omega) (by omega) (by omega) (by rw [hq];simp) (by rw [hq,hbl];simp)
 unfold findT
 rw [e1,e2,parts_pl q,parts_pl path,hq,pl_end]
theorem find_dot (h0:1 <= path.size) (h1:path.size <= 100) (hq:q.data.toList = path.data.toList ++ [47,46]) :
 findT T from_ q = if (findT T from_ path).2 ≠ 0 then (0,(findT T from_ path).2) else if (T (findT T from_ path).1).kind ≠ 2 then (0,11) else findT T from_ path:=by
 have hsq:q.size = path.size + 2:=by have:=congrArg List.length hq;rw [List.length_append,bytes_len,bytes_len] at this;exact this
 have hne:path.data.toList ≠ []:=by intro h;have:=congrArg List.length h;rw [bytes_len,List.length_nil] at this;omega
 obtain ⟨b,l,hbl⟩:=List.exists_cons_of_ne_nil hne
 obtain ⟨e1,e2⟩:=begin_same (T:=T) (from_:=from_) (path:=path) (q:=q) h0 (by omega) (by omega) (by omega) (by rw [hq];simp) (by rw [hq,hbl];simp)
 unfold findT
 rw [e1,e2,parts_pl q,parts_pl path,hq,pl_dot,List.map_append,show List.map mkB [[46]] = [dot1] from rfl,along_app,along_dot]
 by_cases hB:beginE T from_ path ≠ 0
 ·rw [if_pos hB,if_pos hB,if_pos hB]
 ·rw [if_neg hB,if_neg hB]
  split
  ·rfl
  ·next h =>
   split
   ·rfl
   ·exact Prod.ext rfl (Classical.not_not.1 h).symm
theorem find_front (hI:TInv T) (h0:1 <= path.size) (h1:path.size <= 100) (hq:q.data.toList = (if path.data.toList.getD 0 0 = 47 then [47,47,46] else [46,47]) ++ path.data.toList) :
 findT T from_ q = findT T from_ path:=by
 have hne:path.data.toList ≠ []:=by intro h;have:=congrArg List.length h;rw [bytes_len,List.length_nil] at this;omega
 obtain ⟨b,l,hbl⟩:=List.exists_cons_of_ne_nil hne
 have hsz:q.size = q.data.toList.length:=(bytes_len q).symm
 have hsp:path.size = path.data.toList.length:=(bytes_len path).symm
 have key:∀ n,(T n).kind = 2 -> alongT T n ((pl [] q.data.toList).map mkB) = alongT T n ((pl [] path.data.toList).map mkB):=by
  intro n hn
  have hp:pl [] q.data.toList = [46] :: pl [] path.data.toList:=by
   rw [hq]
   split
   ·next hb =>
    rw [hbl] at hb
    obtain rfl:b = 47:=by simpa using hb
    rw [hbl,pl_root]
   ·rw [pl_here]
  rw [hp,List.map_cons,show mkB [46] = dot1 from rfl,alongT,if_neg (by omega),if_pos rfl]
 obtain ⟨e1,e2⟩:=begin_same (T:=T) (from_:=from_) (path:=path) (q:=q) h0 (by rw [hsz,hq];split <;> simp) (by omega) (by rw [hsz,hq];split <;> simp <;> omega)
  (by rw [hq];split <;> simp) (by
   rw [hq]
   by_cases hb:path.data.toList.getD 0 0 = 47
   ·rw [if_pos hb];exact ⟨fun _=>hb,fun _=>rfl⟩
   ·rw [if_neg hb];exact ⟨fun h=>absurd (show (46:UInt8) = 47 from h) (by decide),fun h=>absurd h hb⟩)
 unfold findT
 rw [e1,e2,parts_pl q,parts_pl path]
 by_cases hB:beginE T from_ path ≠ 0
 ·rw [if_pos hB,if_pos hB]
 ·rw [if_neg hB,if_neg hB]
  exact key _ (beginT_ok hI (Classical.not_not.1 hB)).2
end
section
variable {T U:Tr} {m:Nat}
theorem entry_at (hI:TInv T) {d:Nat} (hd:d < 32) (hk:(T d).kind = 2) {k i:Nat} {s:ByteArray} (h:(T d).slots[k]? = some (some (i,s))):entryT (T d) s = some k /\ inoT (T d) k = i:=by
 cases he:entryT (T d) s with
 | none=>exact absurd h (entry_none he)
 | some k' =>
  obtain ⟨_,h2⟩:=entry_some he
  obtain rfl:=hI.once d hd hk k k' i _ s h h2
  rw [h] at h2
  simp only [Option.some.injEq,Prod.mk.injEq,and_true] at h2
  exact ⟨rfl,h2.symm⟩
theorem parts_name {s:ByteArray} (h:namedT s = true):partsT s = [s]:=by
 obtain ⟨h1,_,h3,_⟩:=named_iff.1 h
 have hne:s.data.toList ≠ []:=by intro h;have:=congrArg List.length h;rw [bytes_len,List.length_nil] at this;omega
 rw [parts_pl,pl_one _ [] (fun b hb=>(h3 b hb).1) (by simpa using hne)]
 simp [mkB_list]
theorem begin_name {s:ByteArray} (h:namedT s = true) {n:Int} (hd:isDirT T n = true):beginE T n s = 0 /\ beginN n s = n.toNat:=by
 obtain ⟨h1,h2,h3,_⟩:=named_iff.1 h
 have hne:s.data.toList ≠ []:=by intro h;have:=congrArg List.length h;rw [bytes_len,List.length_nil] at this;omega
 obtain ⟨b,l,hbl⟩:=List.exists_cons_of_ne_nil hne
 have hz:¬ (s.data.toList.contains 0 = true):=fun hc=>(h3 0 (by simpa using hc)).2 rfl
 have h47:¬ s.data.toList.getD 0 0 = 47:=by
  rw [hbl]
  intro h
  exact (h3 b (by rw [hbl];simp)).1 (by simpa using h)
 unfold beginE beginN
 rw [if_neg (by rintro (a | a | a) <;> first | omega | exact hz a),if_neg h47,if_neg (by rw [hd];simp),if_neg h47]
 exact ⟨rfl,rfl⟩
theorem lists_name (hI:TInv T) {n:Int} (hE:listE T n = 0) {s:ByteArray} (hs:s ∈ listT T n):namedT s = true /\ (findT T n s).2 = 0:=by
 have hl:listT T n = namesT (T n.toNat):=by unfold listT;rw [if_neg (by rw [hE];decide)]
 have hf:tfindE T n = 0:=by
  unfold listE at hE
  split at hE
  ·next h=>exact absurd hE h
  ·next h=>exact Classical.not_not.1 h
 have hk:(T n.toNat).kind = 2:=by
  unfold listE at hE
  rw [if_neg (by rw [hf];decide)] at hE
  split at hE
  ·cases hE
  ·next h=>exact Classical.not_not.1 h
 obtain ⟨a,b,_⟩:=tfind_iff.1 hf
 have hd:isDirT T n = true:=isDir_iff.2 ⟨a,b,hk⟩
 have hn:n.toNat < 32:=by omega
 rw [hl] at hs
 unfold namesT at hs
 obtain ⟨o,ho,ho2⟩:=List.mem_filterMap.1 hs
 obtain ⟨⟨i,t⟩,rfl,rfl⟩:=Option.map_eq_some_iff.1 ho2
 obtain ⟨k,hk2⟩:=List.mem_iff_getElem?.1 ho
 obtain ⟨_,_,hnm,_⟩:=hI.slot _ hn hk k i t hk2
 refine ⟨hnm,?_⟩
 obtain ⟨e1,e2⟩:=begin_name (T:=T) hnm hd
 obtain ⟨_,_,_,h4,h5⟩:=named_iff.1 hnm
 obtain ⟨e3,e4⟩:=entry_at hI hn hk hk2
 unfold findT
 rw [if_neg (by rw [e1];decide),e2,parts_name hnm,alongT,if_neg (by omega),if_neg h4,if_neg h5,if_neg (by rw [hnm];decide),e3]
 rfl
theorem names_once (hI:TInv T) {d:Nat} (hd:d < 32) (hk:(T d).kind = 2):(namesT (T d)).Pairwise (· ≠ ·):=by
 unfold namesT
 rw [List.pairwise_filterMap,List.pairwise_iff_getElem]
 intro i j hi hj hij x hx y hy e
 subst e
 obtain ⟨⟨a,t⟩,ha,rfl⟩:=Option.map_eq_some_iff.1 hx
 obtain ⟨⟨b,u⟩,hb,hu⟩:=Option.map_eq_some_iff.1 hy
 simp only at hu
 subst hu
 have:=hI.once d hd hk i j a b u (by rw [List.getElem?_eq_getElem hi,ha]) (by rw [List.getElem?_eq_getElem hj,hb])
 omega
theorem lists_once (hI:TInv T) {n:Int} {i k:Nat} {s t:ByteArray} (hs:(listT T n)[i]? = some s) (ht:(listT T n)[k]? = some t) (hik:k < i):t ≠ s:=by
 by_cases hE:listE T n = 0
 ·have hl:listT T n = namesT (T n.toNat):=by unfold listT;rw [if_neg (by rw [hE];decide)]
  have hf:tfindE T n = 0:=by
   unfold listE at hE
   split at hE
   ·next h=>exact absurd hE h
   ·next h=>exact Classical.not_not.1 h
  have hk:(T n.toNat).kind = 2:=by
   unfold listE at hE
   rw [if_neg (by rw [hf];decide)] at hE
   split at hE
   ·cases hE
   ·next h=>exact Classical.not_not.1 h
  obtain ⟨a,b,_⟩:=tfind_iff.1 hf
  rw [hl] at hs ht
  have hp:=names_once hI (show n.toNat < 32 by omega) hk
  obtain ⟨h1,rfl⟩:=List.getElem?_eq_some_iff.1 hs
  obtain ⟨h2,rfl⟩:=List.getElem?_eq_some_iff.1 ht
  exact List.pairwise_iff_getElem.1 hp k i h2 h1 hik
 ·have hl:listT T n = []:=by unfold listT;rw [if_pos hE]
  rw [hl] at hs
  simp at hs
def Ext (T U:Tr):Prop:=∀ d,d < 32 -> (T d).kind = 2 -> (U d).kind = 2 /\ (U d).up = (T d).up /\ ∀ (k i:Nat) (s:ByteArray),(T d).slots[k]? = some (some (i,s)) -> (U d).slots[k]? = some (some (i,s))
theorem Ext.refl (T:Tr):Ext T T:=fun _ _ h=>⟨h,rfl,fun _ _ _ h=>h⟩
theorem Ext.trans {V:Tr} (h:Ext T U) (k:Ext U V):Ext T V:=fun d hd hk=>by
 obtain ⟨a1,a2,a3⟩:=h d hd hk
 obtain ⟨b1,b2,b3⟩:=k d hd a1
 exact ⟨b1,b2.trans a2,fun k i s hs=>b3 k i s (a3 k i s hs)⟩
theorem ext_put (T:Tr) {d:Nat} (y:Nat × ByteArray):Ext T (putT T d y):=by
 intro j hj hk
 unfold putT
 by_cases h:j = d
 ·subst h
  rw [setT_at]
  refine ⟨hk,rfl,fun k i s hs=>?_⟩
  show (putL y (T j).slots)[k]? = _
  rcases put_place y (T j).slots with ⟨h1,h2,h3⟩ | ⟨h1,h2⟩
  ·rw [h3,List.getElem?_set,if_neg]
   ·exact hs
   ·intro e
    rw [e,hs] at h2
    cases h2
  ·have:=(List.getElem?_eq_some_iff.1 hs).1
   rw [h2,List.getElem?_append_left this]
   exact hs
 ·rw [setT_ne _ _ h]
  exact ⟨hk,rfl,fun _ _ _ h=>h⟩
theorem ext_set (T:Tr) {n:Nat} {x:TN} (h:(T n).kind = 2 -> x.kind = 2 /\ x.up = (T n).up /\ x.slots = (T n).slots):Ext T (setT T n x):=by
 intro j hj hk
 by_cases e:j = n
 ·subst e
  rw [setT_at]
  obtain ⟨a,b,c⟩:=h hk
  exact ⟨a,b,fun k i s hs=>by rw [c];exact hs⟩
 ·rw [setT_ne _ _ e]
  exact ⟨hk,rfl,fun _ _ _ h=>h⟩
theorem along_eq (T:Tr) (n:Nat) (p:ByteArray) (l:List ByteArray):alongT T n (p :: l) = (if (T n).kind ≠ 2 then (0,11) else if p = dot1 then alongT T n l else if p = dot2 then alongT T (T n).up l else if namedT p = false then (0,8) else
 match entryT (T n) p with
 | none=>(0,5)
 | some k=>alongT T (inoT (T n) k) l):=by first | rfl | (unfold alongT;rfl) | simp only [alongT]
theorem along_ext (hI:TInv T) (hU:TInv U) (hE:Ext T U):∀ (l:List ByteArray) {n:Nat},n < 32 -> (T n).kind = 2 -> (alongT T n l).2 = 0 -> alongT U n l = alongT T n l
 | [],_,_,_,_=>rfl
 | p :: l,n,hn,hk,h=>by
  obtain ⟨a,b,c⟩:=hE n hn hk
  rw [along_eq T] at h ⊢
  rw [along_eq U]
  have hT:¬ (T n).kind ≠ 2:=by omega
  have hU2:¬ (U n).kind ≠ 2:=by omega
  rw [if_neg hT] at h
  rw [if_neg hT,if_neg hU2]
  by_cases h1:p = dot1
  ·rw [if_pos h1] at h ⊢
   rw [if_pos h1]
   exact along_ext hI hU hE l hn hk h
  ·rw [if_neg h1] at h ⊢
   rw [if_neg h1]
   by_cases h2:p = dot2
   ·rw [if_pos h2] at h ⊢
    rw [if_pos h2,b]
    obtain ⟨u1,u2⟩:=hI.up n hn hk
    exact along_ext hI hU hE l u1 u2 h
   ·rw [if_neg h2] at h ⊢
    rw [if_neg h2]
    by_cases h3:namedT p = false
    ·rw [if_pos h3] at h;cases h
    ·rw [if_neg h3] at h ⊢
     rw [if_neg h3]
     cases he:entryT (T n) p with
     | none=>rw [he] at h;cases h
     | some k =>
      rw [he] at h
      obtain ⟨_,hs⟩:=entry_some he
      obtain ⟨e1,e2⟩:=entry_at hU hn a (c k _ _ hs)
      rw [e1]
      simp only at h ⊢
      rw [e2]
      obtain ⟨hi,_,_,_⟩:=hI.slot n hn hk k _ _ hs
      cases l with
      | nil=>rfl
      | cons q l =>
       by_cases hk2:(T (inoT (T n) k)).kind = 2
       ·exact along_ext hI hU hE (q :: l) hi hk2 h
       ·rw [alongT,if_pos hk2] at h;cases h
theorem begin_ext (hE:Ext T U) {from_:Int} {path:ByteArray} (h:beginE T from_ path = 0):beginE U from_ path = 0:=by
 unfold beginE at h ⊢
 split at h
 ·cases h
 ·next h1 =>
  rw [if_neg h1]
  split at h
  ·next h2=>rw [if_pos h2]
  ·next h2 =>
   rw [if_neg h2]
   split at h
   ·cases h
   ·next h3 =>
    have h3:isDirT T from_ = true:=by simpa using h3
    obtain ⟨a,b,c⟩:=isDir_iff.1 h3
    rw [if_neg]
    rw [isDir_iff.2 ⟨a,b,(hE _ (by omega) c).1⟩]
    decide
theorem last_at {from_:Int} {path:ByteArray} (h:(lastT T from_ path).2.2 = 0):beginE T from_ path = 0 /\ ∃ l,partsT path = l ++ [(lastT T from_ path).2.1] /\ alongT T (beginN from_ path) l = ((lastT T from_ path).1,0) /\
 (T (lastT T from_ path).1).kind = 2 /\ namedT (lastT T from_ path).2.1 = true:=by
 unfold lastT at h ⊢
 split at h
 ·next h1=>exact absurd h h1
 ·next h1 =>
  rw [if_neg h1]
  refine ⟨Classical.not_not.1 h1,(partsT path).dropLast,?_⟩
  simp only at h ⊢
  split at h
  ·next h2=>exact absurd h h2
  ·next h2 =>
   rw [if_neg h2]
   split at h
   ·cases h
   ·next h3 =>
    rw [if_neg h3]
    cases hg:(partsT path).getLast? with
    | none=>rw [hg] at h;cases h
    | some s =>
     rw [hg] at h
     simp only at h ⊢
     split at h
     ·cases h
     ·next h4 =>
      rw [if_neg h4]
      refine ⟨?_,?_,Classical.not_not.1 h3,by simpa using h4⟩
      ·have hne:partsT path ≠ []:=by intro e;rw [e] at hg;simp at hg
       have e1:=List.dropLast_concat_getLast hne
       rw [List.getLast?_eq_some_getLast hne] at hg
       rw [<- Option.some.inj hg,e1]
      ·exact Prod.ext rfl (Classical.not_not.1 h2)
theorem last_of {from_:Int} {path s:ByteArray} {l:List ByteArray} {d:Nat} (hb:beginE T from_ path = 0) (hp:partsT path = l ++ [s]) (ha:alongT T (beginN from_ path) l = (d,0)) (hk:(T d).kind = 2) (hs:namedT s = true) :
 lastT T from_ path = (d,s,0):=by
 unfold lastT
 rw [if_neg (by rw [hb];decide),hp,List.dropLast_concat,ha]
 simp only
 rw [if_neg (by decide),if_neg (by omega),List.getLast?_concat]
 simp only
 rw [if_neg (by rw [hs];decide)]
theorem last_ext (hI:TInv T) (hU:TInv U) (hE:Ext T U) {from_:Int} {path:ByteArray} (h:(lastT T from_ path).2.2 = 0):lastT U from_ path = ((lastT T from_ path).1,(lastT T from_ path).2.1,0):=by
 obtain ⟨h1,l,h2,h3,h4,h5⟩:=last_at h
 obtain ⟨b1,b2⟩:=beginT_ok hI h1
 have h6:=along_ext hI hU hE l b1 b2 (by rw [h3])
 obtain ⟨c1,_⟩:=alongT_ok hI l b1 (by omega)
 rw [h3] at c1 h6
 exact last_of (begin_ext hE h1) h2 h6 (hE _ c1 h4).1 h5
theorem find_last {from_:Int} {path s:ByteArray} {d k n:Nat} (hU:TInv U) (h:lastT U from_ path = (d,s,0)) (hs:(U d).slots[k]? = some (some (n,s))) (hd:d < 32):findT U from_ path = (n,0):=by
 have h0:(lastT U from_ path).2.2 = 0:=by rw [h]
 obtain ⟨h1,l,h2,h3,h4,h5⟩:=last_at h0
 rw [h] at h2 h3 h4 h5
 obtain ⟨e1,e2⟩:=entry_at hU hd h4 hs
 obtain ⟨_,_,_,g1,g2⟩:=named_iff.1 h5
 unfold findT
 rw [if_neg (by rw [h1];decide),h2,along_app,h3,if_neg (fun h=>h rfl),along_eq]
 simp only at h4 h5 e1 e2 g1 g2 ⊢
 rw [if_neg (by omega),if_neg g1,if_neg g2,if_neg (by rw [h5];decide),e1]
 simp only
 rw [e2]
 rfl
theorem put_there (y:Nat × ByteArray) (l:List SlotT):(putL y l)[placeT l]? = some (some y):=by
 rcases put_place y l with ⟨h1,h2,h3⟩ | ⟨h1,h2⟩
 ·rw [h3,List.getElem?_set,if_pos rfl,if_pos h1]
 ·rw [h1,h2,List.getElem?_append_right (Nat.le_refl _)]
  simp
theorem makeT_ok {from_ kind:Int} {path:ByteArray} (h:(makeT m T from_ path kind).1 = 0):∃ n d s,firstT T = some n /\ makeN m T from_ path kind = n /\ lastT T from_ path = (d,s,0) /\ entryT (T d) s = none /\ (kind = 1 \/ kind = 2) /\
 (makeT m T from_ path kind).2 = makeU T kind.toNat d n s:=by
 have hn:makeN m T from_ path kind = (firstT T).getD 0:=by unfold makeN;rw [if_pos h]
 rw [hn]
 unfold makeT at h ⊢
 split at h
 ·cases h
 ·next h1 =>
  rw [if_neg h1]
  simp only at h ⊢
  split at h
  ·next h2=>exact absurd h h2
  ·next h2 =>
   rw [if_neg h2]
   split at h
   ·cases h
   ·next h3 =>
    rw [if_neg h3]
    cases hf:firstT T with
    | none=>rw [hf] at h;cases h
    | some n =>
     rw [hf] at h
     simp only at h ⊢
     split at h
     ·next h4 =>
      rw [if_pos h4]
      exact ⟨n,_,_,rfl,rfl,Prod.ext rfl (Prod.ext rfl (Classical.not_not.1 h2)),by simpa using h3,by omega,rfl⟩
     ·cases h
theorem ext_make (hI:TInv T) {n d kind:Nat} {s:ByteArray} (hf:firstT T = some n):Ext T (makeU T kind d n s):=by
 obtain ⟨_,h0⟩:=first_some hf
 exact (ext_set T fun e=>absurd e (by omega)).trans (ext_put _ _)
theorem makeU_node {n d kind:Nat} {s:ByteArray} (hdn:d ≠ n):makeU T kind d n s n = ⟨kind,1,[],[],if kind = 2 then d else 0,0⟩:=by
 unfold makeU putT
 rw [setT_ne _ _ (Ne.symm hdn),setT_at]
theorem makeU_dir {n d kind:Nat} {s:ByteArray} (hdn:d ≠ n):makeU T kind d n s d = { T d with slots:=putL (n,s) (T d).slots }:=by
 unfold makeU putT
 rw [setT_at,setT_ne _ _ hdn]
theorem makeU_ne {n d kind j:Nat} {s:ByteArray} (h1:j ≠ n) (h2:j ≠ d):makeU T kind d n s j = T j:=by
 unfold makeU putT
 rw [setT_ne _ _ h2,setT_ne _ _ h1]
theorem undone_law (hI:TInv T) {from_ kind:Int} {path:ByteArray} (h:(makeT m T from_ path kind).1 = 0) :
 makeN m T from_ path kind < 32 /\ (T (makeN m T from_ path kind)).kind = 0 /\ (unlinkT (makeT m T from_ path kind).2 from_ path).1 = 0 /\
 ∀ j,j < 32 -> ((unlinkT (makeT m T from_ path kind).2 from_ path).2 j).kind = (T j).kind /\ ((unlinkT (makeT m T from_ path kind).2 from_ path).2 j).links = (T j).links /\
  ((T j).kind = 1 -> ((unlinkT (makeT m T from_ path kind).2 from_ path).2 j).data = (T j).data):=by
 have hU:=TInv.makes (m:=m) hI (from_:=from_) (kind:=kind) (path:=path)
 obtain ⟨n,d,s,hf,hn,hl,he,hkd,hU2⟩:=makeT_ok h
 rw [hU2] at hU
 rw [hU2,hn]
 obtain ⟨hn32,hn0⟩:=first_some hf
 have hl0:(lastT T from_ path).2.2 = 0:=by rw [hl]
 obtain ⟨hd,hdk,hnm⟩:=lastT_ok hI hl0
 have hl2:=last_ext hI hU (ext_make hI hf) hl0
 rw [hl] at hd hdk hnm hl2
 simp only at hd hdk hnm hl2
 have hdn:d ≠ n:=fun e=>by subst e;omega
 have hfree:=hI.free n hn32 hn0
 have hslot:(makeU T kind.toNat d n s d).slots[placeT (T d).slots]? = some (some (n,s)):=by rw [makeU_dir hdn];exact put_there _ _
 have hdk2:(makeU T kind.toNat d n s d).kind = 2:=by rw [makeU_dir hdn];exact hdk
 obtain ⟨e1,e2⟩:=entry_at hU hd hdk2 hslot
 have hnode:=makeU_node (T:=T) (kind:=kind.toNat) (s:=s) hdn
 have hbusy:¬ ((makeU T kind.toNat d n s n).kind = 2 /\ (emptyT (makeU T kind.toNat d n s n) = false \/ 0 < (makeU T kind.toNat d n s n).held)):=by
  rw [hnode]
  rintro ⟨_,h | h⟩
  ·cases h
  ·exact absurd h (by show ¬ 0 < 0;omega)
 have hun:unlinkT (makeU T kind.toNat d n s) from_ path = (0,unlinkU (makeU T kind.toNat d n s) d (placeT (T d).slots) n):=by
  unfold unlinkT
  rw [hl2]
  simp only
  rw [if_neg (by decide),e1]
  simp only
  rw [e2,if_neg hbusy]
 refine ⟨hn32,hn0,by rw [hun],fun j hj=>?_⟩
 rw [hun]
 simp only
 unfold unlinkU
 simp only
 have hvn:setT (makeU T kind.toNat d n s) d { makeU T kind.toNat d n s d with slots:=(makeU T kind.toNat d n s d).slots.set (placeT (T d).slots) none } n = ⟨kind.toNat,1,[],[],if kind.toNat = 2 then d else 0,0⟩:=by
  rw [setT_ne _ _ (Ne.symm hdn),hnode]
 rw [hvn]
 unfold sweepT
 rw [setT_at,if_pos ⟨rfl,rfl⟩,setT_setT]
 by_cases hjn:j = n
 ·subst hjn
  rw [setT_at,hfree]
  exact ⟨rfl,rfl,fun _=>rfl⟩
 ·rw [setT_ne _ _ hjn]
  by_cases hjd:j = d
  ·subst hjd
   rw [setT_at,makeU_dir hdn]
   exact ⟨rfl,rfl,fun _=>rfl⟩
  ·rw [setT_ne _ _ hjd,makeU_ne hjn hjd]
   exact ⟨rfl,rfl,fun _=>rfl⟩
theorem linkT_ok {from_:Int} {old path:ByteArray} (h:(linkT m T from_ old path).1 = 0):∃ d s,(findT T from_ old).2 = 0 /\ (T (findT T from_ old).1).kind ≠ 2 /\ lastT T from_ path = (d,s,0) /\ entryT (T d) s = none /\
 (linkT m T from_ old path).2 = linkU T (findT T from_ old).1 d s:=by
 unfold linkT at h ⊢
 simp only at h ⊢
 split at h
 ·next h1=>exact absurd h h1
 ·next h1 =>
  rw [if_neg h1]
  split at h
  ·cases h
  ·next h2 =>
   rw [if_neg h2]
   split at h
   ·next h3=>exact absurd h h3
   ·next h3 =>
    rw [if_neg h3]
    split at h
    ·cases h
    ·next h4 =>
     rw [if_neg h4]
     split at h
     ·cases h
     ·next h5 =>
      rw [if_neg h5]
      split at h
      ·next h6 =>
       rw [if_pos h6]
       exact ⟨_,_,Classical.not_not.1 h1,h2,Prod.ext rfl (Prod.ext rfl (Classical.not_not.1 h3)),by simpa using h4,rfl⟩
      ·cases h
end
section
variable {T U:Tr} {m:Nat}
theorem write_node {T:Tr} {n:Nat} {s:ByteArray} (h:(T n).kind = 1) :
 Ext T (writeT m T n 0 s).2 /\ (∀ j,j ≠ n -> (writeT m T n 0 s).2 j = T j) /\ ((writeT m T n 0 s).2 n).kind = 1 /\ ((writeT m T n 0 s).2 n).links = (T n).links /\
 ((writeT m T n 0 s).1 = 0 -> (T n).data = [] -> ((writeT m T n 0 s).2 n).data = s.data.toList /\ s.size <= 512):=by
 unfold writeT
 split
 ·next h1=>exact ⟨Ext.refl _,fun _ _=>rfl,h,rfl,fun e=>absurd e h1⟩
 ·split
  ·next h2=>exact ⟨Ext.refl _,fun _ _=>rfl,h,rfl,fun e=>absurd e h2⟩
  ·next h2 =>
   rw [Int.toNat_natCast]
   dsimp only
   refine ⟨ext_set T fun e=>by omega,fun j hj=>setT_ne _ _ hj,by rw [setT_at];exact h,by rw [setT_at],fun _ hd=>?_⟩
   rw [setT_at]
   refine ⟨?_,?_⟩
   ·show splice (T n).data _ _ = _
    rw [hd]
    simp [splice]
   ·have h2:=Classical.not_not.1 h2
    unfold awriteE at h2
    split at h2
    ·next h3=>exact absurd h2 h3
    ·split at h2
     ·cases h2
     ·next h4=>exact Classical.byContradiction fun hc=>h4 (.inr (.inr (by omega)))
theorem links_law (hI:TInv T) {a b s:ByteArray} (h:(makeT m T 0 a 1).1 = 0) (h2:(linkT m (makeT m T 0 a 1).2 0 a b).1 = 0) :
 makeN m T 0 a 1 < 32 /\
 findT (writeT m (linkT m (makeT m T 0 a 1).2 0 a b).2 (makeN m T 0 a 1) 0 s).2 0 b = (makeN m T 0 a 1,0) /\
 ((writeT m (linkT m (makeT m T 0 a 1).2 0 a b).2 (makeN m T 0 a 1) 0 s).2 (makeN m T 0 a 1)).kind = 1 /\
 ((writeT m (linkT m (makeT m T 0 a 1).2 0 a b).2 (makeN m T 0 a 1) 0 s).2 (makeN m T 0 a 1)).links = 2 /\
 ((writeT m (linkT m (makeT m T 0 a 1).2 0 a b).2 (makeN m T 0 a 1) 0 s).1 = 0 -> ((writeT m (linkT m (makeT m T 0 a 1).2 0 a b).2 (makeN m T 0 a 1) 0 s).2 (makeN m T 0 a 1)).data = s.data.toList /\ s.size <= 512) /\
 (unlinkT (writeT m (linkT m (makeT m T 0 a 1).2 0 a b).2 (makeN m T 0 a 1) 0 s).2 0 a).1 = 0 /\
 ((unlinkT (writeT m (linkT m (makeT m T 0 a 1).2 0 a b).2 (makeN m T 0 a 1) 0 s).2 0 a).2 (makeN m T 0 a 1)).kind = 1 /\
 ((unlinkT (writeT m (linkT m (makeT m T 0 a 1).2 0 a b).2 (makeN m T 0 a 1) 0 s).2 0 a).2 (makeN m T 0 a 1)).links = 1:=by
 have hI1:=TInv.makes (m:=m) hI (from_:=0) (kind:=1) (path:=a)
 obtain ⟨n,d,s1,hf,hn,hl,he,_,hT1⟩:=makeT_ok h
 rw [hn]
 have hI2:=TInv.linkt (m:=m) hI1 (from_:=0) (old:=a) (path:=b)
 obtain ⟨d2,s2,f1,f2,f3,f4,hT2⟩:=linkT_ok h2
 have hI3:=TInv.write (m:=m) hI2 (n:=(n:Int)) (off:=0) (s:=s)
 obtain ⟨T1,e1⟩:∃ T1,T1 = (makeT m T 0 a 1).2:=⟨_,rfl⟩
 rw [<- e1] at hT1 hI1 hI2 hI3 hT2 h2 f1 f2 f3 f4 ⊢
 obtain ⟨T2,e2⟩:∃ T2,T2 = (linkT m T1 0 a b).2:=⟨_,rfl⟩
 rw [<- e2] at hT2 hI2 hI3 ⊢
 obtain ⟨hn32,hn0⟩:=first_some hf
 have hl0:(lastT T 0 a).2.2 = 0:=by rw [hl]
 obtain ⟨hd,hdk,hnm⟩:=lastT_ok hI hl0
 have x1:Ext T T1:=by rw [hT1];exact ext_make hI hf
 have hl1:=last_ext hI hI1 x1 hl0
 rw [hl] at hd hdk hnm hl1
 simp only at hd hdk hnm hl1
 have hdn:d ≠ n:=fun e=>by subst e;omega
 have hslot:(T1 d).slots[placeT (T d).slots]? = some (some (n,s1)):=by rw [hT1,makeU_dir hdn];exact put_there _ _
 have hfa:=find_last hI1 hl1 hslot hd
 rw [hfa] at f1 f2 hT2
 simp only at f1 f2 hT2
 have hT1n:T1 n = ⟨1,1,[],[],0,0⟩:=by rw [hT1,makeU_node hdn];rfl
 have g0:(lastT T1 0 b).2.2 = 0:=by rw [f3]
 obtain ⟨hd2,hdk2,_⟩:=lastT_ok hI1 g0
 rw [f3] at hd2 hdk2
 simp only at hd2 hdk2
 have hdn2:d2 ≠ n:=fun e=>by subst e;rw [hT1n] at hdk2;simp at hdk2
 have x2:Ext T1 T2:=by
  rw [hT2]
  unfold linkU
  exact (ext_set T1 fun e=>by rw [hT1n] at e;simp at e).trans (ext_put _ _)
 have hT2n:T2 n = ⟨1,2,[],[],0,0⟩:=by
  rw [hT2]
  unfold linkU putT
  rw [setT_ne _ _ (Ne.symm hdn2),setT_at,hT1n]
 have hslot2:(T2 d2).slots[placeT (T1 d2).slots]? = some (some (n,s2)):=by
  rw [hT2]
  unfold linkU putT
  rw [setT_at,setT_ne _ _ hdn2]
  exact put_there _ _
 obtain ⟨x3,w1,w2,w3,w4⟩:=write_node (m:=m) (T:=T2) (n:=n) (s:=s) (by rw [hT2n])
 obtain ⟨T3,e3⟩:∃ T3,T3 = (writeT m T2 n 0 s).2:=⟨_,rfl⟩
 rw [<- e3] at x3 w1 w2 w3 w4 hI3 ⊢
 rw [hT2n] at w3 w4
 have hlb:=last_ext hI1 hI3 (x2.trans x3) g0
 rw [f3] at hlb
 simp only at hlb
 have hfb:=find_last hI3 hlb (by rw [w1 d2 hdn2];exact hslot2) hd2
 have hla:=last_ext hI hI3 (x1.trans (x2.trans x3)) hl0
 rw [hl] at hla
 simp only at hla
 have hdk1:(T1 d).kind = 2:=(x1 d hd hdk).1
 obtain ⟨y1,_,y3⟩:=(x2.trans x3) d hd hdk1
 obtain ⟨z1,z2⟩:=entry_at hI3 hd y1 (y3 _ _ _ hslot)
 have hun:unlinkT T3 0 a = (0,unlinkU T3 d (placeT (T d).slots) n):=by
  unfold unlinkT
  rw [hla]
  simp only
  rw [if_neg (by decide),z1]
  simp only
  rw [z2,if_neg (by rw [w2];rintro ⟨h,_⟩;omega)]
 have hres:unlinkU T3 d (placeT (T d).slots) n n = { T3 n with links:=1 }:=by
  unfold unlinkU
  simp only
  rw [setT_ne _ _ (Ne.symm hdn),w3]
  unfold sweepT
  rw [setT_at,if_neg (by rintro ⟨h,_⟩;cases h),setT_at]
  rfl
 refine ⟨hn32,hfb,w2,w3,fun e=>w4 e rfl,by rw [hun],?_,?_⟩
 ·rw [hun];simp only;rw [hres];exact w2
 ·rw [hun];simp only;rw [hres]
theorem read_all {n:Nat} {s:ByteArray} (hn:n < 32) (hk:(T n).kind = 1) (hd:(T n).data = s.data.toList) (hs:s.size <= 512):areadB (volT T) n 0 600 = s:=by
 have hv:volT T n = ⟨1,(T n).links,(T n).data⟩:=nodeT_file hk
 have hf:afindE (volT T) n = 0:=by
  unfold afindE
  rw [if_neg (by omega),Int.toNat_natCast,hv,if_neg (by show ¬ (1:Nat) = 0;omega)]
 unfold areadB areadS areadE
 rw [if_neg (by rw [if_neg (by rw [hf];decide),if_neg (by omega)];decide),Int.toNat_natCast,hv]
 show (⟨((((T n).data).drop 0).take 600).toArray⟩:ByteArray) = s
 have hl:s.data.toList.length <= 600:=by rw [bytes_len];omega
 rw [hd,List.drop_zero,List.take_of_length_le hl,Array.toArray_toList]
end
section
variable {T:Tr} {m d n:Nat} {from_ kind:Int} {path s:ByteArray}
theorem makeT_go (hk:kind = 1 \/ kind = 2) (hl:lastT T from_ path = (d,s,0)) (he:(entryT (T d) s).isSome = false) (hf:firstT T = some n) (hfit:fitsT m (makeU T kind.toNat d n s) = true) :
 makeT m T from_ path kind = (0,makeU T kind.toNat d n s) /\ makeN m T from_ path kind = n:=by
 have h:makeT m T from_ path kind = (0,makeU T kind.toNat d n s):=by
  unfold makeT
  rw [if_neg (by omega),hl]
  simp only
  rw [if_neg (by decide),if_neg (by rw [he];decide),hf]
  simp only
  rw [if_pos hfit]
 refine ⟨h,?_⟩
 unfold makeN
 rw [h,if_pos rfl,hf]
 rfl
theorem linkT_go {old:ByteArray} (hf:findT T from_ old = (n,0)) (hk:(T n).kind ≠ 2) (hl:lastT T from_ path = (d,s,0)) (he:(entryT (T d) s).isSome = false) (h255:(T n).links ≠ 255) (hfit:fitsT m (linkU T n d s) = true) :
 linkT m T from_ old path = (0,linkU T n d s):=by
 unfold linkT
 rw [hf]
 simp only
 rw [if_neg (by decide),if_neg hk,hl]
 simp only
 rw [if_neg (by decide),if_neg (by rw [he];decide),if_neg h255,if_pos hfit]
end
def exA:ByteArray:=⟨#[97]⟩
def exB:ByteArray:=⟨#[98]⟩
def exC:ByteArray:=⟨#[99]⟩
def ex1:Tr:=makeU freshT 2 0 1 exA
def ex2:Tr:=makeU ex1 1 1 2 exB
def ex3:Tr:=linkU ex2 2 0 exC
theorem ex_make1:makeT 68 freshT 0 ⟨#[47,97]⟩ 2 = (0,ex1) /\ makeN 68 freshT 0 ⟨#[47,97]⟩ 2 = 1 :=
 makeT_go (.inr rfl) (by decide +kernel) (by decide +kernel) (by decide +kernel) (by decide +kernel)
theorem ex_make2:makeT 68 ex1 1 ⟨#[98]⟩ 1 = (0,ex2) /\ makeN 68 ex1 1 ⟨#[98]⟩ 1 = 2 :=
 makeT_go (.inl rfl) (by decide +kernel) (by decide +kernel) (by decide +kernel) (by decide +kernel)
theorem ex_find:findT ex2 0 ⟨#[97,47,46,46,47,97,47,46,47,98]⟩ = (2,0):=by decide +kernel
theorem ex_link:linkT 68 ex2 0 ⟨#[97,47,98]⟩ ⟨#[99]⟩ = (0,ex3) :=
 linkT_go (by decide +kernel) (by decide +kernel) (by decide +kernel) (by decide +kernel) (by decide +kernel) (by decide +kernel)
theorem ex_list:listE ex3 0 = 0 /\ listT ex3 0 = [⟨#[97]⟩,⟨#[99]⟩]:=by decide +kernel
theorem ex_busy:unlinkT ex3 0 ⟨#[97]⟩ = (12,ex3):=by
 unfold unlinkT
 rw [show lastT ex3 0 ⟨#[97]⟩ = (0,exA,0) by decide +kernel]
 simp only
 rw [if_neg (by decide),show entryT (ex3 0) exA = some 0 by decide +kernel]
 simp only
 rw [show inoT (ex3 0) 0 = 1 by decide +kernel,if_pos (by decide +kernel)]
theorem ex_dots:unlinkT ex3 0 ⟨#[47,97,47,46,46]⟩ = (8,ex3):=by
 unfold unlinkT
 rw [show lastT ex3 0 ⟨#[47,97,47,46,46]⟩ = (0,ByteArray.empty,8) by decide +kernel]
 simp only
 rw [if_pos (by decide)]
theorem ex_inv:TInv ex1 /\ TInv ex2 /\ TInv ex3:=by
 have h1:TInv ex1:=by have:=TInv.makes (m:=68) fresh_inv (from_:=0) (kind:=2) (path:=⟨#[47,97]⟩);rw [ex_make1.1] at this;exact this
 have h2:TInv ex2:=by have:=TInv.makes (m:=68) h1 (from_:=1) (kind:=1) (path:=⟨#[98]⟩);rw [ex_make2.1] at this;exact this
 have h3:TInv ex3:=by have:=TInv.linkt (m:=68) h2 (from_:=0) (old:=⟨#[97,47,98]⟩) (path:=⟨#[99]⟩);rw [ex_link] at this;exact this
 exact ⟨h1,h2,h3⟩
end Go.Proofs.YtngalllaiphkhaaGreatDoor
