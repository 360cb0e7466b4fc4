import Derived.Test.YtngalllaiphkhaaGreatDoorZTfI
namespace Go.Proofs.YtngalllaiphkhaaGreatDoor
open Go.RowKit
open Go.Lib (hid)
set_option maxRecDepth 100000
set_option maxHeartbeats 16000000
set_option linter.unusedVariables false
set_option linter.unusedSimpArgs false
def stC (T:Tr) (i:Nat):List Value:=[.int .i64 (T i).kind,.int .i64 (if (T i).kind = 0 then 0 else (T i).links:Nat),.int .i64 (if (T i).kind = 0 then 0 else (dataT (T i)).length:Nat)]
def stL (T:Tr):Nat -> List Value
 | 0=>[]
 | k + 1=>stL T k ++ stC T k
theorem stL_len (T:Tr) (k:Nat):(stL T k).length = k * 3:=by
 induction k with
 | zero=>rfl
 | succ k ih=>show (stL T k ++ stC T k).length = _;rw [List.length_append,ih];show k * 3 + 3 = _;omega
theorem stL_at (T:Tr) {k i j:Nat} (hi:i < k) (hj:j < 3):(stL T k)[i * 3 + j]? = (stC T i)[j]?:=by
 induction k with
 | zero=>omega
 | succ k ih =>
  show (stL T k ++ stC T k)[_]? = _
  by_cases h:i < k
  ·rw [List.getElem?_append_left (by rw [stL_len];omega)];exact ih h
  ·obtain rfl:i = k:=by omega
   rw [List.getElem?_append_right (by rw [stL_len];omega),stL_len,show i * 3 + j - i * 3 = j by omega]
theorem stat_cells (T:Tr) {i:Nat} (hi:i < 32):astatV (volT T) (i:Int) = .agg (stC T i).toArray:=by
 have e:afindE (volT T) (i:Int) = if (T i).kind = 0 then 5 else 0:=by rw [find_vol];unfold tfindE;rw [if_neg (by omega),Int.toNat_natCast]
 unfold astatV stC
 rw [e,Int.toNat_natCast]
 by_cases h:(T i).kind = 0
 ·rw [if_pos h,if_neg (by decide),if_pos h,if_pos h,h];rfl
 ·rw [if_neg h,if_pos rfl,show volT T i = _ from nodeT_some h,if_neg h,if_neg h];rfl
theorem Tryz.rowStat9:RowT Tryz.prog 50 tStat9 3 24:=by
 have hi:(Tryz.prog.info? tStat9).map (fun i=>(i.zero,i.size,i.bytes)) = some (some (.agg #[.int .i64 0,.int .i64 0,.int .i64 0]),3,24):=by kernel_rfl
 obtain ⟨i0,hi,hz0,hz1,hz2⟩:=info_parts hi
 exact ⟨⟨i0,_,Tryz.underlying50,hi,hz0,hz1,hz2,rfl⟩,by decide,by decide⟩
section
variable {S0:Nat -> Prop} {w0 w w':World} {t v b d m:Nat} {p:Int} {T:Tr} {B R:Asr}
theorem TV.grow {u v':Value} {e sz n n':Nat} {xs news:List Value} (h:TV p S0 w0 t v b d m T (Star (rowA e sz u n xs) B) w) (hB:Loc B) (hown:w'.ownsRow 0 e sz v' n' news) (hf:Fr (fun k=>u.ownBlock = some k) w w')
 (hv:∀ k,v'.ownBlock = some k -> u.ownBlock = some k \/ w.heap.size <= k):TV p S0 w0 t v b d m T (Star (rowA e sz v' n' news) B) w':=by
 obtain ⟨Z,h1,h2,h3⟩:=VT.out (VT.flip h) (loc_star (loc_blk _ _ _) hB)
 exact VT.flip (h3 w' _ (h2.turn h1 (turn_append hown hf hv)))
theorem TV.start (h:TV p S0 w0 t v b d m T B w) (e sz:Nat):TV p S0 w0 t v b d m T (Star (rowA e sz (.slice none 0 0) 0 []) B) w :=
 h.map fun _ _ h=>star_right h fun S h=>⟨Nob,S,⟨World.ownsRow_nil _ _ _ _,fun k hk=>by cases hk⟩,h,fun _ h=>h.elim,fun _ h=>h.elim,fun _ h=>h⟩
end
theorem treeUndone_calls {acts:List ActT} {ao:Option Addr} {cap:Nat} {w:World} (from_:Int) (path:ByteArray) (kind:Int) (hS:Srcs w (.slice ao acts.length cap) acts.length 9 (flat9 acts)) (hb:acts.length * 96 <= 140737488351232) :
 Calls Tryz.prog 6 #[.agg #[.slice ao acts.length cap,.int .i64 from_,.string path,.int .i64 kind]] w fun e w'=>e = .returned (.bool true) /\ Fr Nob w w':=by
 have HSH:=hid (tshown_calls (w.alloc (.cells #[.slice ao acts.length cap,.int .i64 from_,.string path,.int .i64 kind] 49)))
 have HM:Hid (∀ W,Fr Nob w W -> Calls Tryz.prog 12 #[.slice ao acts.length cap] W (MadeP W)):=hid fun W hf=>lmade_calls (hS.fr hf (fun _ _ _ _ h=>h)) hb
 generalize acts.length = an at *
 have HF0:Hid (Fr Nob w (w.alloc (.cells #[.slice ao an cap,.int .i64 from_,.string path,.int .i64 kind] 49))):=hid ((Fr.refl _ _).alloc _)
 clear hS hb
 go_enter Tryz.func6,Tryz.ntmps6
 go_wp2_with fail
 refine HSH.out.mono ?_
 rintro e w1 ⟨rfl,hf1⟩
 have HF1:=hid (HF0.out.trans hf1)
 have HMD:=hid (HM.out w1 HF1.out)
 clear hf1 HM HSH HF0
 go_wp2_with fail
 refine HMD.out.mono ?_
 rintro e w2 ⟨d,t,b,v,T,rfl,hI,V2⟩
 have HI:=hid hI
 have HV2:=hid (TV.start V2 tStat9 3)
 clear V2 hI HMD
 go_wp2_with fail
 go_loopw [9,10] (fun s9 s10 wr=>∃ (i:Nat) (a2:Option Addr) (c2:Nat),i <= 32 /\ s10 = .int .i64 i /\ s9 = .slice a2 i c2 /\ Hid (TV (-1) Nob w1 t v b d 88 T (Star (rowA tStat9 3 (.slice a2 i c2) i (stL T i)) Emp) wr)) (fun _ s10 _=>32 - (intOf s10).toNat)
 case atStart=>exact ⟨0,none,0,Nat.zero_le _,rfl,rfl,HV2⟩
 case round =>
  obtain ⟨i,a2,c2,hi,rfl,rfl,HV⟩:=hrel
  clear HV2
  have hlr:∀ v n xs,Loc (Star (rowA tStat9 3 v n xs) Emp):=fun _ _ _=>loc_star (loc_row _ _ _ _ _) loc_emp
  have HLR:=hid hlr
  by_cases hlt:i < 32
  ·have hlt2:(i:Int) < 32:=by omega
   have hst:=tstat_calls HV.out (hlr _ _ _) (i:Int)
   rw [stat_cells T hlt] at hst
   obtain ⟨x0,hx0⟩:∃ x:Nat,x = (T i).kind:=⟨_,rfl⟩
   obtain ⟨x1,hx1⟩:∃ x:Nat,x = (if (T i).kind = 0 then 0 else (T i).links):=⟨_,rfl⟩
   obtain ⟨x2,hx2⟩:∃ x:Nat,x = (if (T i).kind = 0 then 0 else (dataT (T i)).length):=⟨_,rfl⟩
   have hsc:stC T i = [.int .i64 x0,.int .i64 x1,.int .i64 x2]:=by unfold stC;rw [hx0,hx1,hx2]
   rw [hsc] at hst
   have HST:=hid hst
   have HSC:=hid hsc
   clear hst hsc hx0 hx1 hx2 HV hlr
   go_wp2_with fail
   refine HST.out.mono ?_
   rintro e wb ⟨rfl,V5⟩
   have V6:=VT.keep V5 (loc_star (loc_blk _ _ _) (HLR.out _ _ _)) (((Fr.refl Nob wb).alloc (.cells #[.int .i64 x0,.int .i64 x1,.int .i64 x2] tStat9)).alloc (.cells #[.int .i64 x0,.int .i64 x1,.int .i64 x2] tStat9))
   have hsr:=srcs_new (wb.alloc (.cells #[.int .i64 x0,.int .i64 x1,.int .i64 x2] tStat9)) [.int .i64 x0,.int .i64 x1,.int .i64 x2] tStat9 1 (by simp [Value.oneCell'])
   simp only [World.size_alloc] at hsr
   have HSR:Hid (Srcs ((wb.alloc (.cells #[.int .i64 x0,.int .i64 x1,.int .i64 x2] tStat9)).alloc (.cells #[.int .i64 x0,.int .i64 x1,.int .i64 x2] tStat9)) (.slice (some ⟨wb.heap.size + 1,0,none⟩) 1 1) 1 3 [.int .i64 x0,.int .i64 x1,.int .i64 x2]):=hid hsr
   clear hsr
   have HO:=hid (TV.row V6)
   have HV6:=hid V6
   clear V5 V6 HST
   go_wp2_with (at_builtin;refine wpList_append_mine rfl (ho:=rfl) (m:=1) (s:=.tmp 42) (x:=.tmp 44) Tryz.rowStat9 rfl HO.out rfl HSR.out (by omega) ?_;intro v' w3 hown hf3 hv3 _;obtain ⟨a3,c3,rfl⟩:=row_any hown)
   go_roundw
   case rel =>
    refine ⟨i + 1,a3,c3,hlt,by go_num,rfl,hid ?_⟩
    show TV (-1) Nob w1 t v b d 88 T (Star (rowA tStat9 3 (.slice a3 (i + 1) c3) (i + 1) (stL T i ++ stC T i)) Emp) _
    rw [HSC.out]
    exact TV.grow HV6.out loc_emp hown hf3 hv3
   case measure=>simp [intOf] <;> omega
  ·obtain rfl:i = 32:=by omega
   have hlt2:¬ (32:Int) < 32:=by omega
   have hlR:=hlr (.slice a2 32 c2) 32 (stL T 32)
   obtain ⟨g,hg⟩:∃ g,a2 = some ⟨g,0,none⟩:=by
    rcases row_form (TV.row HV.out) with ⟨_,h0⟩ | ⟨g,cap2,hv⟩
    ·omega
    ·simp only [Value.slice.injEq] at hv
     exact ⟨g,hv.1⟩
   subst hg
   have HC:=hid ((tMake_calls HV.out hlR HI.out from_ kind path).mono fun e w' h=>h.live)
   have HLAW:=hid (fun h=>undone_law (m:=88) HI.out (from_:=from_) (kind:=kind) (path:=path) h)
   have HI1:=hid (HI.out.makes (m:=88) (from_:=from_) (kind:=kind) (path:=path))
   have HN0:Hid ((makeT 88 T from_ path kind).1 ≠ 0 -> makeN 88 T from_ path kind = 0):=hid fun h=>if_neg h
   obtain ⟨N,hN⟩:∃ N,N = makeN 88 T from_ path kind:=⟨_,rfl⟩
   obtain ⟨E1,hE1⟩:∃ E,E = (makeT 88 T from_ path kind).1:=⟨_,rfl⟩
   obtain ⟨U1,hU1⟩:∃ U,U = (makeT 88 T from_ path kind).2:=⟨_,rfl⟩
   rw [<- hN,<- hE1,<- hU1] at HC
   rw [<- hN,<- hE1,<- hU1] at HLAW
   rw [<- hU1] at HI1
   rw [<- hN,<- hE1] at HN0
   have HLR2:=hid hlR
   clear hN hE1 hU1 HV hlr hlR HI hi hlt HLR
   go_wp2_with fail
   refine HC.out.mono ?_
   rintro e w3 ⟨rfl,V3⟩
   clear HC
   by_cases h1:E1 = 0
   case neg =>
    have hn0:=HN0.out h1
    subst hn0
    have t1:(E1 != 0) = true:=bne_iff_ne.2 h1
    have HFR:=hid (HF1.out.trans (VT.fr V3))
    clear V3 h1 HLAW HI1 HN0
    go_wp2_with fail
    go_ret
    exact ⟨rfl,HFR.out⟩
   subst h1
   obtain ⟨hn,hk0,hu0,hall⟩:=HLAW.out rfl
   have HC:=hid ((tUnlink_calls V3 HLR2.out HI1.out from_ path).mono fun e w' h=>h.live)
   obtain ⟨U2,hU2⟩:∃ U,U = (unlinkT U1 from_ path).2:=⟨_,rfl⟩
   rw [hu0,<- hU2] at HC
   rw [<- hU2] at hall
   have HALL:=hid hall
   have HNL:=hid hn
   have HK0:=hid hk0
   clear hn hk0 hu0 hall hU2 V3 HLAW HI1 HN0
   go_wp2_with fail
   refine HC.out.mono ?_
   rintro e w4 ⟨rfl,V4⟩
   have hnl:=HNL.out
   have hn2:(N:Int) < 32:=by omega
   have c0:w4.cell? ⟨g,N * 3,none⟩ = some (.int .i64 0):=by
    have:=(TV.row V4).cells (g:=g) rfl (N * 3 + 0) (.int .i64 0) (by rw [stL_at T hnl (by omega)];unfold stC;rw [HK0.out];rfl)
    simpa [Addr.add_lit] using this
   have HV4:=hid V4
   clear V4 HC
   go_wp2_with fail
   clear c0 hn2 hnl
   go_loopw [16] (fun s16 wr=>∃ j:Nat,j <= 32 /\ s16 = .int .i64 j /\ Hid (TV (-1) Nob w1 t v b d 88 U2 (Star (rowA tStat9 3 (.slice (some ⟨g,0,none⟩) 32 c2) 32 (stL T 32)) Emp) wr)) (fun s16 _=>32 - (intOf s16).toNat)
   case atStart=>exact ⟨0,Nat.zero_le _,rfl,HV4⟩
   case round =>
    obtain ⟨j,hj,rfl,HX⟩:=hrel
    clear HV4
    by_cases hjl:j < 32
    ·have hjl2:(j:Int) < 32:=by omega
     have hst:=tstat_calls HX.out HLR2.out (j:Int)
     rw [stat_cells U2 hjl] at hst
     obtain ⟨hk,hl,hd⟩:=HALL.out j hjl
     obtain ⟨x0,hx0⟩:∃ x:Nat,x = (T j).kind:=⟨_,rfl⟩
     obtain ⟨x1,hx1⟩:∃ x:Nat,x = (if (T j).kind = 0 then 0 else (T j).links):=⟨_,rfl⟩
     obtain ⟨x2,hx2⟩:∃ x:Nat,x = (if (T j).kind = 0 then 0 else (dataT (T j)).length):=⟨_,rfl⟩
     obtain ⟨y2,hy2⟩:∃ x:Nat,x = (if (U2 j).kind = 0 then 0 else (dataT (U2 j)).length):=⟨_,rfl⟩
     have hsT:stC T j = [.int .i64 x0,.int .i64 x1,.int .i64 x2]:=by unfold stC;rw [hx0,hx1,hx2]
     have hsU:stC U2 j = [.int .i64 x0,.int .i64 x1,.int .i64 y2]:=by unfold stC;rw [hy2,hk,hl,hx0,hx1]
     have hxy:x0 = 1 -> y2 = x2:=by
      intro h1
      have hT1:(T j).kind = 1:=hx0.symm.trans h1
      have hU1:(U2 j).kind = 1:=hk.trans hT1
      rw [hx2,hy2,hT1,hU1,if_neg (by decide),if_neg (by decide)]
      unfold dataT
      rw [if_neg (by omega),if_neg (by omega),hd hT1]
     rw [hsU] at hst
     have HST:=hid hst
     have HSC:=hid hsT
     have HXY:=hid hxy
     clear hst hsT hsU hxy hx0 hx1 hx2 hy2 HX hk hl hd
     go_wp2_with fail
     refine HST.out.mono ?_
     rintro e wb ⟨rfl,V5⟩
     have V6:=VT.keep V5 (loc_star (loc_blk _ _ _) HLR2.out) ((Fr.refl Nob wb).alloc (.cells #[.int .i64 x0,.int .i64 x1,.int .i64 y2] tStat9))
     have cc:∀ k u,[Value.int .i64 x0,.int .i64 x1,.int .i64 x2][k]? = some u -> (wb.alloc (.cells #[.int .i64 x0,.int .i64 x1,.int .i64 y2] tStat9)).cell? ⟨g,j * 3 + k,none⟩ = some u:=fun k u hu=>by
      have hk3:k < 3:=(List.getElem?_eq_some_iff.1 hu).1
      have:=(TV.row V6).cells (g:=g) rfl (j * 3 + k) u (by rw [stL_at T hjl hk3,HSC.out];exact hu)
      simpa [Addr.add_lit] using this
     have c0:=cc 0 _ rfl
     have c1:=cc 1 _ rfl
     have c2':=cc 2 _ rfl
     rw [Nat.add_zero] at c0
     have HV6:=hid (VT.keep V5 (loc_star (loc_blk _ _ _) HLR2.out) ((Fr.refl Nob wb).alloc (.cells #[.int .i64 x0,.int .i64 x1,.int .i64 y2] tStat9)).drew)
     clear V5 V6 HST cc
     by_cases h1:x0 = 1
     ·have h2:=HXY.out h1
      have t1:((x0:Int) == 1) = true:=by rw [beq_iff_eq];omega
      subst h2
      clear HXY HSC h1
      go_wp2_with fail
      go_region
      all_goals
       go_wp2_with fail
       go_roundw
       case rel=>exact ⟨j + 1,hjl,by go_num,HV6⟩
       case measure=>simp [intOf] <;> omega
     ·have t1:((x0:Int) == 1) = false:=by rw [beq_eq_false_iff_ne];omega
      clear HXY HSC h1
      go_wp2_with fail
      go_region
      all_goals
       go_wp2_with fail
       go_roundw
       case rel=>exact ⟨j + 1,hjl,by go_num,HV6⟩
       case measure=>simp [intOf] <;> omega
    ·obtain rfl:j = 32:=by omega
     have hjl2:¬ (32:Int) < 32:=by omega
     have HFR:=hid (HF1.out.trans (VT.fr HX.out))
     clear HX
     go_wp2_with fail
     go_ret
     exact ⟨rfl,HFR.out⟩
end Go.Proofs.YtngalllaiphkhaaGreatDoor
