import Derived.Test.YtngalllaiphkhaaGreatDoorYMF
namespace Go.Proofs.YtngalllaiphkhaaGreatDoor
open Go.RowKit
open Go.Lib (hid)
set_option maxRecDepth 100000
set_option maxHeartbeats 16000000
abbrev tLog:Nat:=195
def lgA (b d:Nat) (stg:Stg) (dead:Bool):Asr:=fun w S=>∃ mb,Blk w b tLog [.pointer (some ⟨d,0,none⟩),.map (some mb),.bool dead] /\ IsMp w mb stg /\ S b /\ S mb
theorem loc_lg (b d:Nat) (stg:Stg) (dead:Bool):Loc (lgA b d stg dead):=by
 rintro w w' S T ⟨mb,h1,h2,h3,h4⟩ hf hT
 exact ⟨mb,h1.fr hf (hT _ h3),h2.fr hf (hT _ h4),h3,h4⟩
theorem dread_calls {b:Nat} {S:Nat -> Prop} {D:DSt} {w:World} (h:IsDisk w b S D) (i:Int) (hl:D.wait.length * 24 <= 140737488355328) :
 Calls Tryz.prog 119 #[.pointer (some ⟨b,0,none⟩),.int .i64 i] w fun e w'=>e = .returned (.tuple #[.string (D.readS i),.int .i64 (D.readE i)]) /\ Fr Nob w w':=by
 unfold DSt.readS DSt.readE
 by_cases h1:D.off = true
 ·rw [if_pos h1,if_pos h1];exact read_off h h1 i
 ·have h1':D.off = false:=by simpa using h1
  rw [if_neg h1,if_neg h1]
  by_cases h2:i < 0 \/ (D.safe.length:Int) <= i
  ·rw [if_pos h2,if_pos h2];exact read_arg h h1' i h2
  ·rw [if_neg h2,if_neg h2]
   obtain ⟨j,rfl⟩:=Int.eq_ofNat_of_zero_le (show 0 <= i by omega)
   rw [Int.toNat_natCast]
   exact read_ok h h1' j (by omega) (by omega)
section
variable {b d mb:Nat} {S:Nat -> Prop} {L:LSt} {w:World}
theorem lhome_calls {dv:Bool} (hb:Blk w b tLog [.pointer (some ⟨d,0,none⟩),.map (some mb),.bool dv]) {D:DSt} (hd:IsDisk w d S D) :
 Calls Tryz.prog 124 #[.pointer (some ⟨b,0,none⟩)] w fun e w'=>e = .returned (.int .i64 ((D.safe.length:Int) - 32)) /\ w = w':=by
 have c0:=hb.cell (j:=0) rfl
 have HD:=hid (sectors_calls hd)
 have hok:D.safe.length <= 544:=by obtain ⟨_,_,_,_,h⟩:=hd;exact h.ok.len
 clear hb hd
 go_enter Tryz.func124,Tryz.ntmps124
 go_wp2_with fail
 refine HD.out.mono ?_
 rintro e w1 ⟨rfl,rfl⟩
 go_wp2_with fail
 go_ret
 exact ⟨rfl,rfl⟩
theorem lmay_calls (hb:Blk w b tLog [.pointer (some ⟨d,0,none⟩),.map (some mb),.bool L.dead]) (hd:IsDisk w d S L.D) (i:Int) :
 Calls Tryz.prog 151 #[.pointer (some ⟨b,0,none⟩),.int .i64 i] w fun e w'=>e = .returned (.int .i64 (L.mayE i)) /\ w = w':=by
 have c2:=hb.cell (j:=2) rfl
 have HH:=hid (lhome_calls hb hd)
 unfold LSt.mayE
 clear hb hd
 cases hdead:L.dead with
 | true =>
  rw [hdead] at c2
  go_enter Tryz.func151,Tryz.ntmps151
  go_wp2
  go_ret
  exact ⟨rfl,rfl⟩
 | false =>
  rw [hdead] at c2
  rw [if_neg (by simp)]
  clear hdead
  by_cases h0:i < 0
  ·rw [if_pos (.inl h0)]
   go_enter Tryz.func151,Tryz.ntmps151
   go_wp2
   go_ret
   exact ⟨rfl,rfl⟩
  ·by_cases h1:(L.D.safe.length:Int) - 32 <= i
   ·rw [if_pos (.inr h1)]
    go_enter Tryz.func151,Tryz.ntmps151
    go_wp2_with fail
    refine HH.out.mono ?_
    rintro e w1 ⟨rfl,rfl⟩
    go_wp2_with fail
    go_ret
    exact ⟨rfl,rfl⟩
   ·rw [if_neg (by omega)]
    go_enter Tryz.func151,Tryz.ntmps151
    go_wp2_with fail
    refine HH.out.mono ?_
    rintro e w1 ⟨rfl,rfl⟩
    go_wp2_with fail
    go_ret
    exact ⟨rfl,rfl⟩
end
section
open Go.RowKit Go.Maps
section
variable {b d mb:Nat} {S:Nat -> Prop} {L:LSt} {w:World}
theorem lget_calls (hb:Blk w b tLog [.pointer (some ⟨d,0,none⟩),.map (some mb),.bool L.dead]) (hm:IsMp w mb L.stg) (hd:IsDisk w d S L.D) (hl:L.D.wait.length * 24 <= 140737488355328) (i:Int) :
 Calls Tryz.prog 82 #[.pointer (some ⟨b,0,none⟩),.int .i64 i] w fun e w'=>e = .returned (.tuple #[.string (L.getS i),.int .i64 (L.getE i)]) /\ Fr Nob w w':=by
 have c0:=hb.cell (j:=0) rfl
 have c1:=hb.cell (j:=1) rfl
 have HM:=hid (lmay_calls hb hd i)
 have hok:L.D.safe.length <= 544:=by obtain ⟨_,_,_,_,h⟩:=hd;exact h.ok.len
 by_cases h0:L.mayE i = 0
 ·have hi:0 <= i /\ i < 512:=by
   unfold LSt.mayE at h0
   split at h0
   ·cases h0
   ·split at h0
    ·cases h0
    ·omega
  obtain ⟨j,rfl⟩:=Int.eq_ofNat_of_zero_le hi.1
  have hlk:=mp_look_ok hm j (by omega)
  have HR:=hid (dread_calls hd (32 + (j:Int)) hl)
  unfold LSt.getS LSt.getE
  rw [if_neg (by simpa using h0),if_neg (by simpa using h0),Int.toNat_natCast]
  cases hat:L.stg.at j with
  | some s =>
   rw [hat] at hlk
   rw [h0] at HM
   clear hb hm hd hat h0
   go_enter Tryz.func82,Tryz.ntmps82
   go_wp2_with fail
   refine HM.out.mono ?_
   rintro e w1 ⟨rfl,rfl⟩
   go_wp2_with fail
   go_ret2
   exact ⟨rfl,Fr.refl _ _⟩
  | none =>
   rw [hat] at hlk
   rw [h0] at HM
   clear hb hm hd hat h0
   go_enter Tryz.func82,Tryz.ntmps82
   go_wp2_with fail
   refine HM.out.mono ?_
   rintro e w1 ⟨rfl,rfl⟩
   go_wp2_with fail
   refine HR.out.mono ?_
   rintro e w2 ⟨rfl,hf⟩
   go_wp2_with fail
   go_ret2
   exact ⟨rfl,hf⟩
 ·unfold LSt.getS LSt.getE
  rw [if_pos h0,if_pos h0]
  have h0':(L.mayE i == 0) = false:=by rw [beq_eq_false_iff_ne];exact h0
  clear hb hm hd h0
  go_enter Tryz.func82,Tryz.ntmps82
  go_wp2_with fail
  refine HM.out.mono ?_
  rintro e w1 ⟨rfl,rfl⟩
  go_wp2_with fail
  go_ret2
  exact ⟨rfl,Fr.refl _ _⟩
theorem lstaged_calls (hb:Blk w b tLog [.pointer (some ⟨d,0,none⟩),.map (some mb),.bool L.dead]) (hm:IsMp w mb L.stg) :
 Calls Tryz.prog 136 #[.pointer (some ⟨b,0,none⟩)] w fun e w'=>e = .returned (.int .i64 L.count) /\ w = w':=by
 have c1:=hb.cell (j:=1) rfl
 have c2:=hb.cell (j:=2) rfl
 have hlen:=mp_len hm 3
 unfold LSt.count
 clear hb hm
 cases hdead:L.dead with
 | true =>
  rw [hdead] at c2
  go_enter Tryz.func136,Tryz.ntmps136
  go_wp2
  go_ret
  exact ⟨rfl,rfl⟩
 | false =>
  rw [hdead] at c2
  go_enter Tryz.func136,Tryz.ntmps136
  go_wp2
  go_ret
  exact ⟨rfl,rfl⟩
theorem labort_calls {dv:Bool} {stg:Stg} (hb:Blk w b tLog [.pointer (some ⟨d,0,none⟩),.map (some mb),.bool dv]) (hm:IsMp w mb stg) :
 Calls Tryz.prog 104 #[.pointer (some ⟨b,0,none⟩)] w fun e w'=>e = .returned (.tuple #[]) /\ IsMp w' mb [] /\ Fr (· = mb) w w':=by
 have c1:=hb.cell (j:=1) rfl
 obtain ⟨w2,hc,h2,hf2⟩:=mp_clear hm 0
 have H2:=hid (show IsMp w2 mb [] /\ Fr (· = mb) w w2 from ⟨h2,hf2⟩)
 clear hb hm h2 hf2
 go_enter Tryz.func104,Tryz.ntmps104
 go_wp2
 exact ⟨rfl,.tuple #[],results_none rfl _ _ _,rfl,H2.out⟩
theorem lset_calls (hb:Blk w b tLog [.pointer (some ⟨d,0,none⟩),.map (some mb),.bool L.dead]) (hm:IsMp w mb L.stg) (hd:IsDisk w d S L.D) (ho:L.stg.Ok) (hl30:L.stg.length <= 30) (i:Int) (s:ByteArray) :
 Calls Tryz.prog 98 #[.pointer (some ⟨b,0,none⟩),.int .i64 i,.string s] w fun e w'=>e = .returned (.int .i64 (L.setE i s)) /\ IsMp w' mb (L.set i s).stg /\ Fr (· = mb) w w':=by
 have c1:=hb.cell (j:=1) rfl
 have HM:=hid (lmay_calls hb hd i)
 have hok:L.D.safe.length <= 544:=by obtain ⟨_,_,_,_,h⟩:=hd;exact h.ok.len
 have HI:=hid hm
 have HOK:=hid ho
 have bad:L.setE i s ≠ 0 -> IsMp w mb (L.set i s).stg /\ Fr (· = mb) w w:=by
  intro h
  unfold LSt.set
  rw [if_pos h]
  exact ⟨hm,Fr.refl _ _⟩
 have BAD:=hid bad
 clear bad
 by_cases h0:L.mayE i = 0
 ·have hi:0 <= i /\ i < 512:=by
   unfold LSt.mayE at h0
   split at h0
   ·cases h0
   ·split at h0
    ·cases h0
    ·omega
  obtain ⟨j,rfl⟩:=Int.eq_ofNat_of_zero_le hi.1
  have hlk:=mp_look_ok hm j (by omega)
  have hlen:=mp_len hm 3
  rw [h0] at HM
  by_cases hs:s.size = 64
  ·have hs':((s.size:Int) == 64) = true:=by rw [beq_iff_eq];omega
   have hE:L.setE (j:Int) s = if L.stg.at j = none /\ L.stg.length = 30 then 4 else 0:=by
    unfold LSt.setE
    rw [if_neg (by simpa using h0),if_neg (by simpa using hs),Int.toNat_natCast]
   by_cases hfull:L.stg.at j = none /\ L.stg.length = 30
   ·rw [if_pos hfull] at hE
    have H:=hid (BAD.out (by rw [hE];decide))
    rw [hE]
    rw [hfull.1] at hlk
    have h30:((L.stg.length:Int) == 30) = true:=by rw [beq_iff_eq];omega
    clear hb hm hd ho hE hfull h0 BAD
    go_enter Tryz.func98,Tryz.ntmps98
    go_wp2_with fail
    refine HM.out.mono ?_
    rintro e w1 ⟨rfl,rfl⟩
    go_wp2_with fail
    go_ret
    exact ⟨rfl,H.out⟩
   ·rw [if_neg hfull] at hE
    have hset:(L.set (j:Int) s).stg = L.stg.put j s:=by
     unfold LSt.set
     rw [if_neg (by simp [hE])]
     rfl
    rw [hE,hset]
    have HV:=hid (plainElem_string (H:=Unit) Tryz.underlying9 (s:=s) (by unfold maxLen;omega))
    have HK:=hid (key_int (i:=(j:Int)) (by omega) (by omega))
    have hl31:L.stg.length < maxLen:=by unfold maxLen;omega
    have HL31:=hid hl31
    clear hl31
    cases hat:L.stg.at j with
    | some t =>
     rw [hat] at hlk
     clear hb hm hd ho hE hfull h0 BAD hat hset
     go_enter Tryz.func98,Tryz.ntmps98
     go_wp2_with fail
     refine HM.out.mono ?_
     rintro e w1 ⟨rfl,rfl⟩
     go_wp2_with (at_mapUpdate;refine wpList_mapUpdate_own _ rfl (.tmp 41) (.tmp 42) (.tmp 43) tMap rfl tIntE tStrE Tryz.keyInt Tryz.underlying193 (plainElem Tryz.prog tStrE) mb L.stg.length (datL L.stg) rfl HI.out HL31.out _ _ _ rfl rfl HK.out _ [] HV.out ?_;intro w2 hown2 hgrow2)
     go_ret
     exact ⟨rfl,mp_put HOK.out hown2 hgrow2⟩
    | none =>
     rw [hat] at hlk
     have h30:((L.stg.length:Int) == 30) = false:=by rw [beq_eq_false_iff_ne];intro h;exact hfull ⟨hat,by omega⟩
     clear hb hm hd ho hE hfull h0 BAD hat hset
     go_enter Tryz.func98,Tryz.ntmps98
     go_wp2_with fail
     refine HM.out.mono ?_
     rintro e w1 ⟨rfl,rfl⟩
     go_wp2_with (at_mapUpdate;refine wpList_mapUpdate_own _ rfl (.tmp 41) (.tmp 42) (.tmp 43) tMap rfl tIntE tStrE Tryz.keyInt Tryz.underlying193 (plainElem Tryz.prog tStrE) mb L.stg.length (datL L.stg) rfl HI.out HL31.out _ _ _ rfl rfl HK.out _ [] HV.out ?_;intro w2 hown2 hgrow2)
     go_ret
     exact ⟨rfl,mp_put HOK.out hown2 hgrow2⟩
  ·have hs':((s.size:Int) == 64) = false:=by rw [beq_eq_false_iff_ne];omega
   have hE:L.setE (j:Int) s = 1:=by
    unfold LSt.setE
    rw [if_neg (by simpa using h0),if_pos hs]
   have H:=hid (BAD.out (by rw [hE];decide))
   rw [hE]
   clear hb hm hd ho hE h0 BAD hs
   go_enter Tryz.func98,Tryz.ntmps98
   go_wp2_with fail
   refine HM.out.mono ?_
   rintro e w1 ⟨rfl,rfl⟩
   go_wp2_with fail
   go_ret
   exact ⟨rfl,H.out⟩
 ·have hE:L.setE i s = L.mayE i:=by
   unfold LSt.setE
   rw [if_pos h0]
  have h0':(L.mayE i == 0) = false:=by rw [beq_eq_false_iff_ne];exact h0
  have H:=hid (BAD.out (by rw [hE];exact h0))
  rw [hE]
  clear hb hm hd ho hE h0 BAD
  go_enter Tryz.func98,Tryz.ntmps98
  go_wp2_with fail
  refine HM.out.mono ?_
  rintro e w1 ⟨rfl,rfl⟩
  go_wp2_with fail
  go_ret
  exact ⟨rfl,H.out⟩
end
end
theorem one_actsE (D:DSt) (a:DAct):D.actsE [a] = D.actE a:=by
 show (if D.actE a = 0 then 0 else D.actE a) = _
 split
 ·rename_i h;exact h.symm
 ·rfl
theorem one_acts (D:DSt) (a:DAct):D.acts [a] = D.act1 a:=by
 show (if D.actE a = 0 then D.act1 a else D.act1 a) = _
 split <;> rfl
section
variable {S0:Nat -> Prop} {w0 w:World} {d:Nat} {D:DSt} {B:Asr}
theorem sealed_calls {l:List Nat} {v:Value} (hL:Lv S0 w0 (Star (dskA kD d D) (Star (rowA tIntE 1 v l.length (nums l)) B)) w) (hB:Loc B) (hl:l.length <= 30) (hh:∀ h ∈ l,h < 65536) (hw:(D.wait.length + 1) * 24 <= 140737488355328) :
 Calls Tryz.prog 171 #[.pointer (some ⟨d,0,none⟩),v] w fun e w'=>e = .returned (.int .i64 (D.actsE (sealA l))) /\ Lv S0 w0 (Star (dskA kD d (D.acts (sealA l))) (Star (rowA tIntE 1 v l.length (nums l)) B)) w':=by
 obtain ⟨T,S1,S2,h1,_⟩:=hL.second
 obtain ⟨ao,c,rfl⟩:=row_any h1.1
 have HH:=hid hh
 have HL:=hid hl
 have HW:=hid hw
 have hF:=flush_keeps D
 have hW:=write_keeps D.flush 1 (headP l)
 have e1:D.actsE (sealA l) = if D.flushE = 0 then (if D.flush.writeE 1 (headP l) = 0 then (D.flush.write 1 (headP l)).flushE else D.flush.writeE 1 (headP l)) else D.flushE:=by
  show D.actsE (.flush :: .write 1 (headP l) :: [.flush]) = _
  rw [DSt.actsE_cons,DSt.actsE_cons,one_actsE]
  rfl
 have e2:D.acts (sealA l) = if D.flushE = 0 then (if D.flush.writeE 1 (headP l) = 0 then (D.flush.write 1 (headP l)).flush else D.flush.write 1 (headP l)) else D.flush:=by
  show D.acts (.flush :: .write 1 (headP l) :: [.flush]) = _
  rw [DSt.acts_cons,DSt.acts_cons,one_acts]
  rfl
 have E1:=hid e1
 have E2:=hid e2
 clear hh hl hw h1 e1 e2
 have hB':Loc (Star (rowA tIntE 1 (.slice ao l.length c) l.length (nums l)) B):=loc_star (loc_row _ _ _ _ _) hB
 go_enter Tryz.func171,Tryz.ntmps171
 go_wp2_with fail
 refine (hL.op ((d_flush (by have:=HW.out;omega)).left hB')).mono ?_
 rintro e w1 ⟨rfl,L1⟩
 clear hL
 by_cases hE:D.flushE = 0
 ·rw [if_pos hE] at E1 E2
  have hE':(D.flushE == 0) = true:=by rw [beq_iff_eq];exact hE
  clear hE
  go_wp2_with fail
  obtain ⟨T,S1,S2,h1,_⟩:=L1.second
  refine (L1.calls (loc_star (loc_dsk _ _ _) hB') (head_calls (row_srcs h1.1 (nums_one _)) HL.out HH.out)).mono ?_
  rintro e w2 ⟨rfl,L2⟩
  clear L1 h1
  go_wp2_with fail
  refine (L2.op ((d_write 1 (headP l) (by have:=HW.out;omega)).left hB')).mono ?_
  rintro e w3 ⟨rfl,L3⟩
  clear L2
  by_cases hE:D.flush.writeE 1 (headP l) = 0
  ·rw [if_pos hE] at E1 E2
   have hE'':(D.flush.writeE 1 (headP l) == 0) = true:=by rw [beq_iff_eq];exact hE
   clear hE
   go_wp2_with fail
   refine (L3.op ((d_flush (by have:=HW.out;omega)).left hB')).mono ?_
   rintro e w4 ⟨rfl,L4⟩
   clear L3
   go_wp2_with fail
   go_ret
   exact ⟨(by rw [E1.out];try rfl),by rw [E2.out];exact L4⟩
  ·rw [if_neg hE] at E1 E2
   have hE'':(D.flush.writeE 1 (headP l) == 0) = false:=by rw [beq_eq_false_iff_ne];exact hE
   clear hE
   go_wp2_with fail
   go_ret
   exact ⟨(by rw [E1.out];try rfl),by rw [E2.out];exact L3⟩
 ·rw [if_neg hE] at E1 E2
  have hE':(D.flushE == 0) = false:=by rw [beq_eq_false_iff_ne];exact hE
  clear hE
  go_wp2_with fail
  go_ret
  exact ⟨(by rw [E1.out];try rfl),by rw [E2.out];exact L1⟩
def homeA (l:Stg):List DAct:=l.map fun x=>.write (32 + x.1) x.2
theorem installA_eq (l:Stg):installA l = homeA l ++ sealA []:=rfl
theorem homeA_take {l:Stg} {k:Nat} {x:Nat × ByteArray} (h:l[k]? = some x):homeA (l.take (k + 1)) = homeA (l.take k) ++ [.write (32 + x.1) x.2]:=by
 unfold homeA
 rw [List.take_add_one,h]
 simp
theorem acts_snoc {D:DSt} {l:List DAct} (a:DAct) (h:D.actsE l = 0):D.acts (l ++ [a]) = (D.acts l).act1 a /\ D.actsE (l ++ [a]) = (D.acts l).actE a:=by
 rw [DSt.acts_append,DSt.actsE_append,if_pos h,if_pos h,one_acts,one_actsE]
 exact ⟨rfl,rfl⟩
theorem homeA_wait (D:DSt) (l:Stg):(D.acts (homeA l)).wait.length <= D.wait.length + l.length:=by
 induction l generalizing D with
 | nil=>exact Nat.le_refl _
 | cons x l ih =>
  show (if D.actE _ = 0 then (D.act1 _).acts (homeA l) else D.act1 _).wait.length <= _
  have h1:=(write_keeps D ((32 + x.1:Nat):Int) x.2).2
  split
  ·refine Nat.le_trans (ih _) ?_
   show (D.write _ _).wait.length + _ <= _
   rw [List.length_cons]
   omega
  ·refine Nat.le_trans h1 ?_
   rw [List.length_cons]
   omega
theorem acts_stop {D:DSt} {l k:List DAct} (h:D.actsE l ≠ 0):D.acts (l ++ k) = D.acts l /\ D.actsE (l ++ k) = D.actsE l:=by
 rw [DSt.acts_append,DSt.actsE_append,if_neg h,if_neg h]
 exact ⟨rfl,rfl⟩
theorem install_calls {l:Stg} {v:Value} {g:Nat} {caps:Array Value} (eg:∀ args w,(callFunc g args).run Tryz.prog w = .ok (.enter g args) w)
 (hL:Lv S0 w0 (Star (dskA kD d D) (Star (rowA tIntE 1 v l.length (nums (keys l))) B)) w) (hB:Loc B) (hl:l.length <= 30) (hh:∀ x ∈ l,x.1 < 65536) (hw:(D.wait.length + 31) * 24 <= 140737488355328)
 (hfrom:∀ (k:Nat) (x:Nat × ByteArray) (wr:World),l[k]? = some x -> D.actsE (homeA (l.take k)) = 0 -> Lv S0 w0 (Star (dskA kD d (D.acts (homeA (l.take k)))) (Star (rowA tIntE 1 v l.length (nums (keys l))) B)) wr ->
  Calls Tryz.prog g (#[.int .i64 (k:Int)] ++ caps) wr fun e w'=>e = .returned (.tuple #[.string x.2,.int .i64 0]) /\ Fr Nob wr w') :
 Calls Tryz.prog 122 #[.pointer (some ⟨d,0,none⟩),v,.func (.func g) #[] caps] w fun e w'=>e = .returned (.int .i64 (D.actsE (installA l))) /\ Lv S0 w0 (Star (dskA kD d (D.acts (installA l))) (Star (rowA tIntE 1 v l.length (nums (keys l))) B)) w':=by
 obtain ⟨T,S1,S2,h1,_⟩:=hL.second
 obtain ⟨ao,c,rfl⟩:=row_any h1.1
 have HF:=hid hfrom
 have HH:=hid hh
 obtain ⟨n,hn⟩:∃ n,n = l.length:=⟨_,rfl⟩
 have HN:=hid hn
 have HL:=hid hl
 have HW:=hid hw
 rw [<- hn] at hL ⊢
 clear hfrom hn hl hw h1 hh
 have hnl:n <= 30:=by rw [HN.out];exact HL.out
 have hB':Loc (Star (rowA tIntE 1 (.slice ao n c) n (nums (keys l))) B):=loc_star (loc_row _ _ _ _ _) hB
 go_enter Tryz.func122,Tryz.ntmps122
 go_wp2_with fail
 go_loopw [13] (fun i wr=>∃ k:Nat,k <= n /\ i = .int .i64 k /\ D.actsE (homeA (l.take k)) = 0 /\ Lv S0 w0 (Star (dskA kD d (D.acts (homeA (l.take k)))) (Star (rowA tIntE 1 (.slice ao n c) n (nums (keys l))) B)) wr) (fun i _=>n - (intOf i).toNat)
 case atStart=>exact ⟨0,Nat.zero_le _,rfl,rfl,hL⟩
 case round =>
  obtain ⟨k,hk,rfl,hE0,hLk⟩:=hrel
  have HE0:=hid hE0
  clear hL hE0
  by_cases hlt:k < n
  ·obtain ⟨x,hx⟩:∃ x,l[k]? = some x:=⟨_,List.getElem?_eq_getElem (by rw [<- HN.out];exact hlt)⟩
   obtain ⟨T,S1,S2,h1,_⟩:=hLk.second
   obtain ⟨ga,off,rfl,cx⟩:=(row_srcs h1.1 (nums_one _)).at (j:=k) (u:=.int .i64 (x.1:Int)) (by simp [nums,keys,hx])
   have hF:=HF.out k x wr hx HE0.out (by rw [<- HN.out];exact hLk)
   have hwk:=homeA_wait D (l.take k)
   rw [List.length_take] at hwk
   have hx6:=HH.out x (List.mem_of_getElem? hx)
   obtain ⟨q1,q2⟩:=acts_snoc (.write (32 + x.1) x.2) HE0.out
   rw [<- homeA_take hx] at q1 q2
   have hcast:((32 + x.1:Nat):Int) = 32 + (x.1:Int):=by omega
   have q1:D.acts (homeA (l.take (k + 1))) = (D.acts (homeA (l.take k))).write (32 + (x.1:Int)) x.2:=by rw [q1,<- hcast];rfl
   have q2:D.actsE (homeA (l.take (k + 1))) = (D.acts (homeA (l.take k))).writeE (32 + (x.1:Int)) x.2:=by rw [q2,<- hcast];rfl
   have HQ1:=hid q1
   have HQ2:=hid q2
   have HX:=hid hx
   have HFF:=hid hF
   clear h1 hx hF q1 q2 hcast
   go_wp2_with fail
   refine HFF.out.mono ?_
   rintro e w2 ⟨rfl,hf2⟩
   have L2:=hLk.keep (loc_star (loc_dsk _ _ _) hB') hf2
   clear hLk hf2 cx
   go_wp2_with fail
   refine (L2.op ((d_write (32 + (x.1:Int)) x.2 (by have:=HW.out;have:=HL.out;omega)).left hB')).mono ?_
   rintro e w3 ⟨rfl,L3⟩
   clear L2
   by_cases hE:(D.acts (homeA (l.take k))).writeE (32 + (x.1:Int)) x.2 = 0
   ·have hE':((D.acts (homeA (l.take k))).writeE (32 + (x.1:Int)) x.2 == 0) = true:=by rw [beq_iff_eq];exact hE
    have HEE:=hid hE
    clear hE
    go_wp2_with fail
    go_roundw
    case rel =>
     refine ⟨k + 1,hlt,by go_num,HQ2.out.trans HEE.out,?_⟩
     rw [HQ1.out]
     exact L3
    case measure=>simp [intOf];omega
   ·have hE':((D.acts (homeA (l.take k))).writeE (32 + (x.1:Int)) x.2 == 0) = false:=by rw [beq_eq_false_iff_ne];exact hE
    have hstop:=acts_stop (D:=D) (l:=homeA (l.take (k + 1))) (k:=homeA (l.drop (k + 1)) ++ sealA []) (by rw [HQ2.out];exact hE)
    have hall:homeA (l.take (k + 1)) ++ (homeA (l.drop (k + 1)) ++ sealA []) = installA l:=by
     rw [<- List.append_assoc,installA_eq]
     congr 1
     unfold homeA
     rw [<- List.map_append,List.take_append_drop]
    rw [hall] at hstop
    have HS:=hid hstop
    clear hE hstop hall
    go_wp2_with fail
    go_ret
    exact ⟨(by rw [HS.out.2,HQ2.out];try rfl),by rw [HS.out.1,HQ1.out];exact L3⟩
  ·obtain rfl:k = n:=by omega
   rw [show l.take k = l by rw [HN.out,List.take_length]] at HE0 hLk
   have hwk:=homeA_wait D l
   have hnil:Lv S0 w0 (Star (dskA kD d (D.acts (homeA l))) (Star (rowA tIntE 1 (.slice none 0 0) ([]:List Nat).length (nums [])) (Star (rowA tIntE 1 (.slice ao k c) k (nums (keys l))) B))) wr:=hLk.map (fun U h=>by
    obtain ⟨S,T,h1,h2,h3,h4,h5⟩:=h
    exact ⟨S,T,h1,⟨fun _=>False,T,⟨World.ownsRow_nil _ _ _ _,fun k hk=>by cases hk⟩,h2,fun _ h=>h.elim,fun _ h=>h.elim,fun _ h=>h⟩,h3,h4,h5⟩)
   have hall:installA l = homeA l ++ sealA []:=rfl
   have HI:Hid (D.actsE (installA l) = (D.acts (homeA l)).actsE (sealA []) /\ D.acts (installA l) = (D.acts (homeA l)).acts (sealA [])):=by
    rw [hall,DSt.acts_append,DSt.actsE_append,if_pos HE0.out,if_pos HE0.out]
    exact ⟨rfl,rfl⟩
   clear hLk hall
   go_wp2_with fail
   refine (sealed_calls hnil hB' (by simp) (by simp) (by have:=HW.out;have:=HL.out;omega)).mono ?_
   rintro e w3 ⟨rfl,L3⟩
   clear hnil
   go_wp2_with fail
   go_ret
   refine ⟨(by rw [HI.out.1];try rfl),?_⟩
   rw [HI.out.2]
   exact L3.map (fun U h=>by
    obtain ⟨S,T,h1,⟨S',T',_,h2,_,_,h6⟩,h3,h4,h5⟩:=h
    exact ⟨S,T',h1,h2,fun k hk ht=>h3 k hk (h6 k ht),h4,fun k hk=>h5 k (h6 k hk)⟩)
end
theorem write_zero {D:DSt} {i:Int} {s:ByteArray} (h:D.writeE i s = 0):D.off = false /\ D.write i s = { D.pay with wait:=D.wait ++ [(i.toNat,s)] }:=by
 unfold DSt.writeE at h
 unfold DSt.write
 split at h
 ·cases h
 ·rename_i h1
  split at h
  ·cases h
  ·rename_i h2
   split at h
   ·cases h
   ·rename_i h3
    rw [if_neg h1,if_neg h2,if_neg h3]
    exact ⟨by simpa using h1,rfl⟩
theorem homeA_sec {D:DSt} {l:Stg} (h0:D.off = false) (h:D.actsE (homeA l) = 0):(D.acts (homeA l)).off = false /\ (D.acts (homeA l)).safe = D.safe /\ ∀ j,j < 32 -> (D.acts (homeA l)).sec j = D.sec j:=by
 induction l generalizing D with
 | nil=>exact ⟨h0,rfl,fun _ _=>rfl⟩
 | cons x l ih =>
  have e1:D.actsE (homeA (x :: l)) = if D.writeE ((32 + x.1:Nat):Int) x.2 = 0 then (D.write ((32 + x.1:Nat):Int) x.2).actsE (homeA l) else D.writeE ((32 + x.1:Nat):Int) x.2:=rfl
  have e2:D.acts (homeA (x :: l)) = if D.writeE ((32 + x.1:Nat):Int) x.2 = 0 then (D.write ((32 + x.1:Nat):Int) x.2).acts (homeA l) else D.write ((32 + x.1:Nat):Int) x.2:=rfl
  by_cases hE:D.writeE ((32 + x.1:Nat):Int) x.2 = 0
  ·rw [e1,if_pos hE] at h
   rw [e2,if_pos hE]
   obtain ⟨_,hw⟩:=write_zero hE
   have ho:(D.write ((32 + x.1:Nat):Int) x.2).off = false:=by rw [hw];exact h0
   obtain ⟨h1,h2,h3⟩:=ih ho h
   refine ⟨h1,by rw [h2,hw];rfl,fun j hj=>?_⟩
   rw [h3 j hj,hw]
   rw [DSt.sec_eq,DSt.sec_eq]
   show ((lastOf (D.wait ++ [(_,x.2)]) j).or D.safe[j]?).getD _ = _
   rw [lastOf_snoc,if_neg (by simp;omega)]
  ·rw [e1,if_neg hE] at h
   exact absurd h hE
theorem open_none {D:DSt} (h:D.readE 1 = 0) (hP:homesP (D.readS 1) ((D.safe.length:Int) - 32) = none):D.openE = 6 /\ D.opened = D:=by
 unfold DSt.openE DSt.opened
 rw [if_neg (by simpa using h),if_neg (by simpa using h),hP]
 exact ⟨rfl,rfl⟩
theorem open_some {D:DSt} {l:List Nat} (h:D.readE 1 = 0) (hP:homesP (D.readS 1) ((D.safe.length:Int) - 32) = some l) :
 D.openE = (if l = [] then 0 else D.actsE (installA (D.held l))) /\ D.opened = (if l = [] then D else D.acts (installA (D.held l))):=by
 have hn:¬ D.readE 1 ≠ 0:=by simpa using h
 unfold DSt.openE DSt.opened
 rw [if_neg hn,if_neg hn,hP]
 exact ⟨rfl,rfl⟩
theorem held_get {D:DSt} {l:List Nat} {k:Nat} {x:Nat × ByteArray} (h:(D.held l)[k]? = some x):l[k]? = some x.1 /\ x.2 = D.sec (2 + k):=by
 unfold DSt.held at h
 rw [List.getElem?_map,Option.map_eq_some_iff] at h
 obtain ⟨p,hp,rfl⟩:=h
 rw [List.getElem?_zipIdx] at hp
 rw [Option.map_eq_some_iff] at hp
 obtain ⟨a,ha,rfl⟩:=hp
 exact ⟨ha,by simp⟩
theorem held_keys (D:DSt) (l:List Nat):keys (D.held l) = l:=by
 unfold keys DSt.held
 rw [List.map_map,show ((fun x:Nat × ByteArray=>x.1) ∘ fun p:Nat × Nat=>(p.1,D.sec (2 + p.2))) = Prod.fst from rfl,List.zipIdx_map_fst]
theorem held_length (D:DSt) (l:List Nat):(D.held l).length = l.length:=by unfold DSt.held;simp
section
variable {S0:Nat -> Prop} {w0 w:World} {d:Nat} {D:DSt} {B:Asr}
theorem open1_calls {c:Nat} {S:Nat -> Prop} {k:Nat} (hd:IsDisk w d S D) (hc:w.cell? ⟨c,0,none⟩ = some (.pointer (some ⟨d,0,none⟩))) (h0:D.off = false) (hk:k < 30) (hw:D.wait.length * 24 <= 140737488355328) :
 Calls Tryz.prog 123 #[.int .i64 (k:Int),.pointer (some ⟨c,0,none⟩)] w fun e w'=>e = .returned (.tuple #[.string (D.sec (2 + k)),.int .i64 0]) /\ Fr Nob w w':=by
 have hlo:48 <= D.safe.length:=by obtain ⟨_,_,_,_,h⟩:=hd;exact h.ok.lo48
 have hr:=DSt.read_on h0 (i:=2 + (k:Int)) (by omega) (by omega)
 rw [show (2 + (k:Int)).toNat = 2 + k by omega] at hr
 have HR:=hid hr
 have HC:=hid (dread_calls hd (2 + (k:Int)) hw)
 clear hd h0 hlo hr hw
 go_enter Tryz.func123,Tryz.ntmps123
 go_wp2_with fail
 refine HC.out.mono ?_
 rw [HR.out.1,HR.out.2]
 rintro e w1 ⟨rfl,hf⟩
 go_wp2_with fail
 go_ret2
 exact ⟨rfl,hf⟩
def OpenRet (S0:Nat -> Prop) (w0:World) (d:Nat) (D:DSt) (B:Asr) (e:Ending) (w':World):Prop :=
 (D.openE ≠ 0 /\ e = .returned (.tuple #[.pointer none,.int .i64 D.openE]) /\ Lv S0 w0 (Star (dskA kD d D.opened) B) w') \/
 (D.openE = 0 /\ ∃ b,e = .returned (.tuple #[.pointer (some ⟨b,0,none⟩),.int .i64 0]) /\ Lv S0 w0 (Star (dskA kD d D.opened) (Star (lgA b d [] false) B)) w')
theorem lg_new {E:DSt} (hL:Lv S0 w0 (Star (dskA kD d E) B) w) (hB:Loc B) :
 Lv S0 w0 (Star (dskA kD d E) (Star (lgA (w.heap.size + 1) d [] false) B)) ((w.alloc (.map #[] 0)).alloc (.cells #[.pointer (some ⟨d,0,none⟩),.map (some w.heap.size),.bool false] tLog)):=by
 have h1:=mp_new w
 have hf:Fr Nob w ((w.alloc (.map #[] 0)).alloc (.cells #[.pointer (some ⟨d,0,none⟩),.map (some w.heap.size),.bool false] tLog)):=((Fr.refl _ _).alloc _).alloc _
 have h2:lgA (w.heap.size + 1) d [] false ((w.alloc (.map #[] 0)).alloc (.cells #[.pointer (some ⟨d,0,none⟩),.map (some w.heap.size),.bool false] tLog)) (Plus Nob w ((w.alloc (.map #[] 0)).alloc (.cells #[.pointer (some ⟨d,0,none⟩),.map (some w.heap.size),.bool false] tLog))):=by
  refine ⟨w.heap.size,?_,h1.fr ((Fr.refl Nob _).alloc _) (fun h=>h),.inr ⟨by omega,by simp⟩,.inr ⟨Nat.le_refl _,by simp;omega⟩⟩
  have:=Blk.new (w.alloc (.map #[] 0)) tLog [.pointer (some ⟨d,0,none⟩),.map (some w.heap.size),.bool false]
  rw [World.size_alloc] at this
  exact this
 exact (hL.new (loc_star (loc_dsk _ _ _) hB) hf h2).map (fun U h=>by
  have h1:=star_assoc' h
  exact star_assoc (star_left h1 (fun _ h=>star_swap h)))
theorem open_calls (hL:Lv S0 w0 (Star (dskA kD d D) B) w) (hB:Loc B) (hw:(D.wait.length + 31) * 24 <= 140737488355328) :
 Calls Tryz.prog 63 #[.pointer (some ⟨d,0,none⟩)] w (OpenRet S0 w0 d D B):=by
 have HW:=hid hw
 obtain ⟨S1,hd0⟩:=hL.first
 have hokD:D.Ok:=by obtain ⟨_,_,_,_,h⟩:=hd0;exact h.ok
 have HOK:=hid hokD
 have hlo:=hokD.lo48
 have hhi:=hokD.len
 have hBb:Loc (Star (dskA kD d D) B):=loc_star (loc_dsk _ _ _) hB
 have L1:=hL.box hBb 55 [.pointer (some ⟨d,0,none⟩)]
 clear hL hd0 hokD hw
 go_enter Tryz.func63,Tryz.ntmps63
 go_wp2_with fail
 obtain ⟨S1,hd1⟩:=L1.second
 obtain ⟨S2,_,hd2,_⟩:=hd1
 refine (L1.calls (loc_star (loc_blk _ _ _) hBb) (dread_calls hd2 1 (by have:=HW.out;omega))).mono ?_
 rintro e w2 ⟨rfl,L2⟩
 clear L1 hd2
 obtain ⟨S3,h3⟩:=L2.first
 have c0:=h3.1.cell (j:=0) rfl
 clear h3
 by_cases hE:D.readE 1 = 0
 ·have ho:D.off = false:=by
   unfold DSt.readE at hE
   split at hE
   ·cases hE
   ·rename_i h;simpa using h
  have hr:=DSt.read_on ho (i:=1) (by omega) (by omega)
  have hz:(D.readS 1).size = 64:=by rw [hr.1];exact (by
   rcases D.sec_cases (i:=1) (by omega) with ⟨s,h1,h2,_⟩ | ⟨s,h1,h2,_⟩
   ·rw [show (1:Int).toNat = 1 from rfl,h2];exact HOK.out.size s (List.mem_of_getElem? h1)
   ·rw [show (1:Int).toNat = 1 from rfl,h2];exact HOK.out.wsize _ h1)
  have hE':(D.readE 1 == 0) = true:=by rw [beq_iff_eq];exact hE
  have HE0:=hid hE
  have HO:=hid ho
  clear hE hr ho
  go_wp2_with fail
  obtain ⟨S1,hd1⟩:=L2.second
  obtain ⟨S2,_,hd2,_⟩:=hd1
  refine (sectors_calls hd2).mono ?_
  rintro e w3 ⟨rfl,rfl⟩
  clear hd2
  go_wp2_with fail
  refine (homes_calls hz ((D.safe.length:Int) - 32) w2).mono ?_
  rintro e w3 ⟨hf3,v3,rfl,hrow⟩
  have L3:=L2.keep (loc_star (loc_blk _ _ _) hBb) hf3
  have L2':=L2
  have c3:=hf3.cell c0 (fun h=>h)
  clear L2 hz c0
  cases hP:homesP (D.readS 1) ((D.safe.length:Int) - 32) with
  | none =>
   obtain ⟨eO,eD⟩:=open_none HE0.out hP
   have L4:=L3.drop
   have HR:Hid (OpenRet S0 w0 d D B (.returned (.tuple #[.pointer none,.int .i64 6])) w3):=(show OpenRet S0 w0 d D B (.returned (.tuple #[.pointer none,.int .i64 6])) w3 from .inl ⟨by rw [eO];decide,by rw [eO],by rw [eD];exact L4⟩)
   clear L3 L4 hrow hf3 eO eD hP
   simp only [Option.isSome_none]
   go_wp2_with fail
   go_ret2
   exact HR.out
  | some l =>
   obtain ⟨eO,eD⟩:=open_some HE0.out hP
   obtain ⟨hl30,hri,hlt,_⟩:=homesP_some hP
   obtain ⟨hown,hnew⟩:=hrow l hP
   obtain ⟨ao,c,rfl⟩:=row_any hown
   have EO:=hid eO
   have ED:=hid eD
   clear hrow hP eO eD
   simp only [Option.isSome_some]
   by_cases hl0:l = []
   ·subst hl0
    have L4:=L3.drop
    rw [if_pos rfl] at EO ED
    have L4':Lv S0 w0 (Star (dskA kD d D.opened) B) w3:=by rw [ED.out];exact L4
    have L5:=lg_new L4' hB
    have HR:Hid (OpenRet S0 w0 d D B (.returned (.tuple #[.pointer (some ⟨w3.heap.size + 1,0,none⟩),.int .i64 0])) ((w3.alloc (.map #[] 0)).alloc (.cells #[.pointer (some ⟨d,0,none⟩),.map (some w3.heap.size),.bool false] tLog))) :=
     (show OpenRet S0 w0 d D B (.returned (.tuple #[.pointer (some ⟨w3.heap.size + 1,0,none⟩),.int .i64 0])) ((w3.alloc (.map #[] 0)).alloc (.cells #[.pointer (some ⟨d,0,none⟩),.map (some w3.heap.size),.bool false] tLog)) from .inr ⟨EO.out,_,rfl,L5⟩)
    have hmm:=@run_makeMap Tryz.prog
    clear L3 L4 L4' L5 hown hnew hf3
    go_wp2_with fail
    go_ret2
    exact HR.out
   ·have hpos:(0:Int) < (l.length:Int):=by have:=List.length_pos_iff.2 hl0;omega
    rw [if_neg hl0] at EO ED
    have HLT:=hid hlt
    have L4:Lv S0 w0 (Star (dskA kD d D) (Star (rowA tIntE 1 (.slice ao (D.held l).length c) (D.held l).length (nums (keys (D.held l)))) (Star (blkA w.heap.size 55 [.pointer (some ⟨d,0,none⟩)]) B))) w3:=by
     rw [held_length,held_keys]
     have:=L2'.new (B:=rowA tIntE 1 (.slice ao l.length c) l.length (nums l)) (loc_star (loc_blk _ _ _) hBb) hf3 ⟨hown,fun k hk=>.inr ⟨hnew k hk,(hown.lt k hk).2⟩⟩
     exact this.map (fun U h=>by
      obtain ⟨S,T,h1,⟨S',T',h2,⟨S'',T'',h3,h4,e1,e2,e3⟩,f1,f2,f3⟩,g1,g2,g3⟩:=h
      refine ⟨S'',fun k=>S k \/ S' k \/ T'' k,h3,⟨S,fun k=>S' k \/ T'' k,h1,⟨S',T'',h2,h4,fun k hk ht=>f1 k hk (e3 k ht),fun k hk=>.inl hk,fun k hk=>.inr hk⟩,?_,fun k hk=>.inl hk,fun k hk=>.inr hk⟩,?_,fun k hk=>g3 k (f3 k (e2 k hk)),?_⟩
      ·rintro k hk (h | h)
       ·exact g1 k hk (f2 k h)
       ·exact g1 k hk (f3 k (e3 k h))
      ·rintro k hk (h | h | h)
       ·exact g1 k h (f3 k (e2 k hk))
       ·exact f1 k h (e2 k hk)
       ·exact e1 k hk h
      ·rintro k (h | h | h)
       ·exact g2 k h
       ·exact g3 k (f2 k h)
       ·exact g3 k (f3 k (e3 k h)))
    have HI:=hid (install_calls (g:=123) (caps:=#[.pointer (some ⟨w.heap.size,0,none⟩)]) (enters_of Tryz.func123 (by kernel_rfl) rfl) L4 (loc_star (loc_blk _ _ _) hB) (by rw [held_length];exact hl30) (by
     intro x hx
     have h1:x.1 ∈ keys (D.held l):=List.mem_map.2 ⟨x,hx,rfl⟩
     rw [held_keys] at h1
     have:=hlt _ h1
     omega) HW.out (by
     intro k x wr hx hE0 hLr
     obtain ⟨h1,h2⟩:=held_get hx
     obtain ⟨q1,q2,q3⟩:=homeA_sec HO.out hE0
     obtain ⟨S5,h5⟩:=hLr.first
     obtain ⟨T6,S6,S7,_,⟨S8,S9,h8,_⟩,_⟩:=hLr.second
     have hkl:k < l.length:=(List.getElem?_eq_some_iff.1 h1).1
     have hwk:=homeA_wait D ((D.held l).take k)
     rw [List.length_take] at hwk
     have hc:=open1_calls (k:=k) h5 (h8.1.cell (j:=0) rfl) q1 (by omega) (by have:=HW.out;omega)
     rw [q3 (2 + k) (by omega),<- h2] at hc
     exact hc))
    rw [held_length] at HI
    clear L3 L4 hown hnew hf3 L2'
    go_wp2_with fail
    refine HI.out.mono ?_
    rintro e w4 ⟨rfl,L5⟩
    have c4:w4.cell? ⟨w.heap.size,0,none⟩ = some (.pointer (some ⟨d,0,none⟩)):=by
     obtain ⟨T6,S6,S7,_,⟨S8,S9,h8,_⟩,_⟩:=L5.second
     exact h8.1.cell (j:=0) rfl
    have L6:Lv S0 w0 (Star (dskA kD d D.opened) B) w4:=by
     rw [ED.out]
     exact L5.map (fun U h=>by
      obtain ⟨S,T,h1,⟨S',T',_,⟨S'',T'',_,h4,_,_,e3⟩,_,_,f3⟩,g1,g2,g3⟩:=h
      exact ⟨S,T'',h1,h4,fun k hk ht=>g1 k hk (f3 k (e3 k ht)),g2,fun k hk=>g3 k (f3 k (e3 k hk))⟩)
    clear L5 HI c3
    by_cases hE:D.actsE (installA (D.held l)) = 0
    ·have hE2:(D.actsE (installA (D.held l)) == 0) = true:=by rw [beq_iff_eq];exact hE
     have L7:=lg_new L6 hB
     have HR:Hid (OpenRet S0 w0 d D B (.returned (.tuple #[.pointer (some ⟨w4.heap.size + 1,0,none⟩),.int .i64 0])) ((w4.alloc (.map #[] 0)).alloc (.cells #[.pointer (some ⟨d,0,none⟩),.map (some w4.heap.size),.bool false] tLog))) :=
      (show OpenRet S0 w0 d D B (.returned (.tuple #[.pointer (some ⟨w4.heap.size + 1,0,none⟩),.int .i64 0])) ((w4.alloc (.map #[] 0)).alloc (.cells #[.pointer (some ⟨d,0,none⟩),.map (some w4.heap.size),.bool false] tLog)) from .inr ⟨EO.out.trans hE,_,rfl,L7⟩)
     have hmm:=@run_makeMap Tryz.prog
     clear L6 L7 hE
     go_wp2_with fail
     go_ret2
     exact HR.out
    ·have hE2:(D.actsE (installA (D.held l)) == 0) = false:=by rw [beq_eq_false_iff_ne];exact hE
     have HR:Hid (OpenRet S0 w0 d D B (.returned (.tuple #[.pointer none,.int .i64 (D.actsE (installA (D.held l)))])) w4) :=
      (show OpenRet S0 w0 d D B (.returned (.tuple #[.pointer none,.int .i64 (D.actsE (installA (D.held l)))])) w4 from .inl ⟨by rw [EO.out];exact hE,by rw [EO.out],L6⟩)
     clear L6 hE
     go_wp2_with fail
     go_ret2
     exact HR.out
 ·have hE':(D.readE 1 == 0) = false:=by rw [beq_eq_false_iff_ne];exact hE
  have eO:D.openE = D.readE 1:=by unfold DSt.openE;rw [if_pos hE]
  have eD:D.opened = D:=by unfold DSt.opened;rw [if_pos hE]
  have L3:=L2.drop
  have HR:Hid (OpenRet S0 w0 d D B (.returned (.tuple #[.pointer none,.int .i64 (D.readE 1)])) w2):=(show OpenRet S0 w0 d D B (.returned (.tuple #[.pointer none,.int .i64 (D.readE 1)])) w2 from .inl ⟨by rw [eO];exact hE,by rw [eO],by rw [eD];exact L3⟩)
  clear L2 L3 hE eO eD
  go_wp2_with fail
  go_ret2
  exact HR.out
end
section
open Go.RowKit Go.Maps Go.Sort Go.Shelf
theorem Tryz.sortsA (m:Nat):AnyZI.SortsIn Tryz.prog Tryz.sortedA_ren Fence.wide m :=
 ⟨fun blk off cap ss W hH hblk hsz=>callsIn_wide.2 (Tryz.slices_Sort_int blk off cap ss W hH hblk hsz),
  fun p cap W=>callsIn_wide.2 (Tryz.slices_Sort_int_none p cap W)⟩
theorem mkeys_calls (mb:Option Nat) (w:World):Calls Tryz.prog 158 #[.map mb] w fun e w'=>e = .returned (.func (.func 188) #[] #[.pointer (some ⟨w.heap.size,0,none⟩)]) /\ w' = w.alloc (.cells #[.map mb] tMap) :=
 callsIn_wide.1 (AnyZI.keys_in Tryz.keysA Fence.wide 5 trivial rfl mb w)
theorem sorted_keys {stg:Stg} (ho:stg.Ok) {ss:List Int} (h:ss.Perm (intKeys (datL stg))):(ss.mergeSort fun x y=>decide (x <= y)) = stg.map fun x=>(x.1:Int):=by
 rw [keys_dat] at h
 have hs:(stg.map fun x=>(x.1:Int)).Pairwise (fun a b=>decide (a <= b) = true):=by
  rw [List.pairwise_map]
  exact ho.imp (fun h=>by simp;omega)
 have h1:=List.mergeSort_perm ss (fun x y=>decide (x <= y))
 have h2:=List.pairwise_mergeSort (le:=fun x y=>decide (x <= y)) (fun a b c=>by simp;omega) (fun a b=>by simp;omega) ss
 refine List.Perm.eq_of_pairwise (le:=fun a b=>decide (a <= b) = true) (fun a b _ _ h1 h2=>?_) h2 hs (h1.trans h)
 simp at h1 h2
 omega
theorem sorted_calls {mb:Nat} {stg:Stg} {w:World} (hm:IsMp w mb stg) (ho:stg.Ok) (hl:stg.length <= 30) :
 Calls Tryz.prog 157 #[.func (.func 188) #[] #[.pointer (some ⟨w.heap.size,0,none⟩)]] (w.alloc (.cells #[.map (some mb)] tMap)) fun e w' =>
  ∃ v,e = .returned v /\ w'.ownsRow 0 tIntE 1 v stg.length (nums (keys stg)) /\ (∀ k,v.ownBlock = some k -> w.heap.size <= k) /\ Fr Nob (w.alloc (.cells #[.map (some mb)] tMap)) w':=by
 refine (callsIn_wide (n:=5)).1 ?_
 have hseq:SeqGives Fence.wide 2 Tryz.prog 188 #[.pointer (some ⟨w.heap.size,0,none⟩)] encZ (fun ss=>ss.Perm (intKeys (datL stg))) (Maps.size (datL stg)) (w.alloc (.cells #[.map (some mb)] tMap)) :=
  AnyZI.keys_gives (ρ:=Tryz.keysA_ren) { Tryz.keysA with } Fence.wide _ trivial rfl (by omega) w.heap.size mb stg.length (datL stg) _ (by simp) (by simp) (World.ownsMap.alloc hm _)
 have cS:=AnyZI.sorted_in Tryz.sortedA Fence.wide 5 trivial trivial trivial trivial rfl (by omega) (Tryz.sortsA _) (enters_of Tryz.func187 (by kernel_rfl) rfl) 188 #[.pointer (some ⟨w.heap.size,0,none⟩)] trivial (enters_of Tryz.func188 (by kernel_rfl) rfl) _ _ (by rw [size_dat];unfold maxLen;omega) (by rw [size_dat];omega) _ hseq
 refine CallsIn.mono cS ?_
 rintro e w' ⟨v,ss,rfl,hS,hrow,hnil,hb⟩
 have hlen:ss.length = stg.length:=by have:=hS.length_eq;rw [keys_dat] at this;simpa using this
 rw [sorted_keys ho hS,hlen] at hrow
 refine ⟨v,rfl,?_,?_,Fr.of_below hb (fun _ h _=>h)⟩
 ·have e:nums (keys stg) = (stg.map fun x=>(x.1:Int)).map encZ:=by unfold nums keys;rw [List.map_map,List.map_map];rfl
  rw [e]
  exact ownsRow_base hrow
 ·intro k hk
  have:=(hrow.lt k hk).1
  simp at this
  omega
end
end Go.Proofs.YtngalllaiphkhaaGreatDoor
