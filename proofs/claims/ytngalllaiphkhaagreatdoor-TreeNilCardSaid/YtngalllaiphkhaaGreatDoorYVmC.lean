import Derived.Test.YtngalllaiphkhaaGreatDoorYVmB
namespace Go.Proofs.YtngalllaiphkhaaGreatDoor
open Go.RowKit
open Go.Lib (hid)
set_option maxRecDepth 100000
set_option maxHeartbeats 16000000
set_option linter.unusedVariables false
set_option linter.unusedSimpArgs false
section
open Go.RowKit Go.Shelf
def hadX (X:Sec) (k:Nat):Nat -> Bool:=fun i=>decide (9 <= i) && usedTo X k i
structure Rdv (m:Nat) (X:Sec) (L:LSt):Prop where
 vok:VOk L
 len:L.D.safe.length = 32 + m
 get:∀ {i:Nat},i < m -> L.getE i = 0 /\ vget L i = X i
section
variable {m:Nat} {X:Sec} {L:LSt}
theorem Rdv.m16 (h:Rdv m X L):16 <= m /\ m <= 512:=by
 have h1:=h.vok.disk.lo48
 have h2:=h.vok.disk.len
 have h3:=h.len
 omega
theorem Rdv.size (h:Rdv m X L) {i:Nat} (hi:i < m):(X i).size = 64:=by
 rw [<- (h.get hi).2]
 exact vget_size h.vok i
theorem Rdv.get0 (h:Rdv m X L):L.getE 0 = 0 /\ vget L 0 = X 0:=h.get (i:=0) (by have:=h.m16;omega)
theorem Rdv.inode (h:Rdv m X L) {n:Nat} (hn:n < 32):vinode L n = xinode X n:=by
 unfold vinode xinode
 rw [(h.get (i:=1 + n / 4) (by have:=h.m16;omega)).2]
theorem Rdv.at_ (h:Rdv m X L) (x:Ino) {k:Nat} (hx:k < 5 \/ x.a5 < m):vat L x k = xat X x k:=by
 unfold vat xat
 by_cases hk:k < 5
 ·rw [if_pos hk,if_pos hk]
 ·rw [if_neg hk,if_neg hk,(h.get (hx.resolve_left hk)).2]
end
section
variable {m:Nat} {H X:Sec} {K:List Nat} {L:LSt} {x:Ino}
theorem had_at {X:Sec} {k i:Nat} (h:9 <= i):hadX X k i = usedTo X k i:=by unfold hadX;simp [h]
theorem had_apart {X:Sec} {k:Nat} {l:List Nat} (h:∀ i ∈ l,9 <= i):Apart (hadX X k) l ↔ Apart (usedTo X k) l:=by
 unfold Apart
 exact and_congr Iff.rfl ⟨fun q i hi=>by rw [<- had_at (h i hi)];exact q i hi,fun q i hi=>by rw [had_at (h i hi)];exact q i hi⟩
theorem own_vat (hA:Rdv m X L) (h5:5 < sectorsP x.size -> x.a5 < m) {k:Nat} (hk:k < 5 \/ 5 < sectorsP x.size):vat L x k = xat X x k:=hA.at_ x (hk.imp id h5)
theorem ownV_X (hA:Rdv m X L) (h5:5 < sectorsP x.size -> x.a5 < m) (hk0:x.kind ≠ 0):(ownV L x (sectorsP x.size)).Perm (ownL X x):=by
 have e:(List.range (sectorsP x.size)).map (vat L x) = (List.range (sectorsP x.size)).map (xat X x):=List.map_congr_left fun k hk=>by
  have:=List.mem_range.1 hk
  exact own_vat hA h5 (by omega)
 have:=ownV_perm L x (sectorsP x.size)
 rw [e] at this
 unfold ownL
 rw [if_neg hk0]
 exact this
theorem owns_iff (hA:Rdv m X L) {n:Nat} (hn:n < 32):OwnsQ m L (hadX X n) (xinode X n) ↔ InoT m X n:=by
 obtain ⟨x,hx⟩:∃ x,x = xinode X n:=⟨_,rfl⟩
 unfold InoT
 rw [<- hx]
 unfold OwnsQ
 by_cases hk0:x.kind = 0
 ·rw [if_pos hk0]
  constructor
  ·intro h
   rw [h]
   exact ⟨free_inop,by unfold ownL;rw [if_pos (show Ino.free.kind = 0 from rfl)];exact apart_nil _⟩
  ·intro h;exact h.1.free hk0
 ·rw [if_neg hk0]
  constructor
  ·intro h
   have h5:5 < sectorsP x.size -> 9 <= x.a5 /\ x.a5 < m:=fun h6=>h.inn x.a5 (by unfold ownV lastL;rw [if_pos h6];simp)
   have hp:=ownV_X hA (fun h6=>(h5 h6).2) hk0
   refine ⟨⟨fun h0=>absurd h0 hk0,h.kind,h.size,h.a5z,h5,fun k hk=>?_,fun k h37 hge hc=>?_⟩,?_⟩
   ·rw [<- own_vat hA (fun h6=>(h5 h6).2) (by omega)]
    exact h.inn _ (by unfold ownV;exact List.mem_append_right _ (List.mem_map.2 ⟨k,List.mem_range.2 hk,rfl⟩))
   ·by_cases h6:5 < sectorsP x.size
    ·rw [<- own_vat hA (fun h6=>(h5 h6).2) (.inr h6)]
     exact h.tail h6 k hge h37
    ·have h7:k < 5:=hc.resolve_right h6
     unfold xat;rw [if_pos h7];exact h.zero k hge h7
   ·rw [<- apart_perm hp,<- had_apart (fun i hi=>(h.inn i hi).1)]
    exact h.apart
  ·rintro ⟨hi,ha⟩
   have h5:5 < sectorsP x.size -> x.a5 < m:=fun h6=>(hi.a5 h6).2
   have hp:=ownV_X hA h5 hk0
   have hin:∀ i ∈ ownV L x (sectorsP x.size),9 <= i /\ i < m:=fun i h=>own_in hi (hp.mem_iff.1 h)
   refine ⟨hi.kind,hi.size,hi.a5z,hin,(had_apart fun i h=>(hin i h).1).2 ((apart_perm hp).2 ha),fun k hge hlt=>?_,fun h6 k hge h37=>?_⟩
   ·have:=hi.zero k (by omega) hge (.inl hlt)
    unfold xat at this;rwa [if_pos hlt] at this
   ·rw [own_vat hA h5 (.inr h6)]
    exact hi.zero k h37 hge (.inr h6)
theorem had_succ (hA:Rdv m X L) {n:Nat} (hn:n < 32) (h:InoT m X n) :
 boolL (marks (hadX X n) (if (xinode X n).kind = 0 then [] else ownV L (xinode X n) (sectorsP (xinode X n).size))) m = boolL (hadX X (n + 1)) m:=by
 refine boolL_congr fun i hi=>?_
 have hl:marks (hadX X n) (if (xinode X n).kind = 0 then [] else ownV L (xinode X n) (sectorsP (xinode X n).size)) = marks (hadX X n) (ownL X (xinode X n)):=by
  by_cases hk0:(xinode X n).kind = 0
  ·rw [if_pos hk0];unfold ownL;rw [if_pos hk0]
  ·rw [if_neg hk0]
   exact marks_perm (ownV_X hA (fun h6=>(h.1.a5 h6).2) hk0)
 rw [hl]
 unfold hadX
 show (_ || _) = (_ && (usedTo X n i || decide (i ∈ ownL X (xinode X n))))
 by_cases h9:9 <= i
 ·simp [h9]
 ·have:i ∉ ownL X (xinode X n):=fun hm=>h9 (own_in h.1 hm).1
  simp [h9,this]
theorem used_is (hA:Rdv m X L) {k:Nat} (h:∀ j,j < k -> InoT m X j) (i:Nat):usedTo X k i = (decide (i < 9) || (decide (i < m) && hadX X k i)):=by
 unfold hadX
 by_cases h9:i < 9
 ·have:usedTo X k i = true:=(usedTo_iff X i k).2 (.inl h9)
  simp [this,h9]
 ·by_cases hm:i < m
  ·simp [h9,hm,show 9 <= i by omega]
  ·have:usedTo X k i = false:=by
    cases hu:usedTo X k i with
    | false=>rfl
    | true =>
     rcases (usedTo_iff X i k).1 hu with h1 | ⟨j,hj,h1⟩
     ·omega
     ·exact absurd (own_in (h j hj).1 h1).2 hm
   simp [this,h9,hm]
end
section
variable {S0:Nat -> Prop} {w0 w:World} {b d m:Nat} {H X:Sec} {K:List Nat} {L:LSt} {B R:Asr}
def MountPost (S0:Nat -> Prop) (w0:World) (b d m:Nat) (X:Sec) (L:LSt) (B:Asr) (e:Ending) (w':World):Prop :=
 (Whole m X /\ ∃ v,e = .returned (.tuple #[.pointer (some ⟨v,0,none⟩),.int .i64 0]) /\ VV S0 w0 v b d L B w') \/
 (¬ Whole m X /\ e = .returned (.tuple #[.pointer none,.int .i64 6]) /\ LV S0 w0 b d L B w')
theorem vmount_calls (hL:LV S0 w0 b d L B w) (hB:Loc B) (hA:Rdv m X L) :
 Calls Tryz.prog 64 #[.pointer (some ⟨b,0,none⟩)] w (MountPost S0 w0 b d m X L B):=by
 have hk:=hA.vok
 have hV:=LV.vol hL hB
 have HAL:=valive_calls hV hB hk
 rw [hA.get0.1] at HAL
 have HAL:=hid HAL
 have HK:=hid hk
 have HA:=hid hA
 have HB:=hid hB
 clear hL hV hk hA hB
 go_enter Tryz.func64,Tryz.ntmps64
 go_wp2_with fail
 refine HAL.out.mono ?_
 rintro e w2 ⟨rfl,L2⟩
 obtain ⟨v,hv⟩:∃ v,v = w.heap.size:=⟨_,rfl⟩
 rw [<- hv] at L2 ⊢
 have HHM:=lv_home (VV.gone L2)
 rw [HA.out.len,show (((32 + m:Nat):Int) - 32) = (m:Int) by omega] at HHM
 have HHM:=hid HHM
 have HL2:=hid L2
 have hm512:=HA.out.m16.2
 have HM:=hid hm512
 clear L2 HAL hv hm512
 go_wp2_with fail
 refine HHM.out.mono ?_
 rintro e w3 ⟨rfl,rfl⟩
 go_wp2_with (with_reducible show wpList _ _ _ _ _ _;refine wpList_make_mine rfl rfl Tryz.underlying128 Tryz.infoBool rfl (n:=m) rfl rfl (by have:=HM.out;omega) (by have:=HM.out;omega) ?_;intro w3 hb3 hf3 hs3)
 obtain ⟨hb,hhb⟩:∃ hb,hb = w2.heap.size:=⟨_,rfl⟩
 rw [<- hhb] at hb3 ⊢
 have L3:VV S0 w0 v b d L (Star (blkA hb tBool (boolL (hadX X 0) m)) B) w3:=by
  have h1:=Lv.new (B:=blkA hb tBool (List.replicate m (.bool false))) HL2.out (VV.loc HB.out) hf3 ⟨hb3,.inr ⟨by omega,by omega⟩⟩
  rw [boolL_rep,boolL_congr (V:=hadX X 0) fun i hi=>by unfold hadX usedTo;by_cases h9:i < 9 <;> simp [h9,show ¬ 9 <= i ↔ i < 9 by omega]] at h1
  exact VV.inn h1
 have HL3:=hid L3
 clear L3 HL2 HHM hb3 hf3 hs3 hhb
 go_wp2_with fail
 go_loopw [7,24] (fun _ s24 wr=>∃ k:Nat,k <= 32 /\ s24 = .int .i64 k /\ Hid (∀ j,j < k -> InoT m X j) /\ Hid (VV S0 w0 v b d L (Star (blkA hb tBool (boolL (hadX X k) m)) B) wr)) (fun _ s24 _=>32 - (intOf s24).toNat)
 case atStart=>exact ⟨0,Nat.zero_le _,rfl,hid (fun j hj=>by omega),HL3⟩
 case round =>
  clear HL3
  obtain ⟨k,hk,rfl,HT,HL⟩:=hrel
  by_cases hlt:k < 32
  ·have hlt2:(k:Int) < 32:=by omega
   have HI:=vinode_calls HL.out (loc_star (loc_blk _ _ _) HB.out) HK.out k hlt
   rw [HA.out.inode hlt] at HI
   have hfit:=vinode_fits L k
   rw [HA.out.inode hlt] at hfit
   have HFI:=hid hfit
   have HI:=hid HI
   have HLT:=hid hlt
   clear HL hfit hlt
   go_wp2_with fail
   refine HI.out.mono ?_
   rintro e w5 ⟨rfl,L5⟩
   have HO:=hid (vowns_calls L5 HB.out HK.out HFI.out)
   clear L5 HI
   go_wp2_with fail
   refine HO.out.mono ?_
   rintro e w6 (⟨hq,rfl,L6⟩ | ⟨hq,rfl,U',L6⟩)
   ·have ht:=(owns_iff HA.out HLT.out).1 hq
    rw [had_succ HA.out HLT.out ht] at L6
    have HL6:=hid L6
    have HT2:Hid (∀ j,j < k + 1 -> InoT m X j):=hid fun j hj=>by
     by_cases e:j = k
     ·subst e;exact ht
     ·exact HT.out j (by omega)
    clear L6 hq ht HO
    go_wp2_with fail
    go_roundw
    case rel=>exact ⟨k + 1,HLT.out,by go_num,HT2,HL6⟩
    case measure=>simp [intOf];have:=HLT.out;omega
   ·have HBAD:Hid (¬ Whole m X):=hid fun h=>hq ((owns_iff HA.out HLT.out).2 (h.each k HLT.out))
    have HE:=hid (VV.gone (VV.less L6))
    clear L6 hq HO
    go_wp2_with fail
    go_ret2
    exact .inr ⟨HBAD.out,rfl,HE.out⟩
  ·have hge:¬ (k:Int) < 32:=by omega
   have hk32:k = 32:=by omega
   have HG:=vget_calls HL.out (loc_star (loc_blk _ _ _) HB.out) HK.out 0
   rw [HA.out.get0.2] at HG
   have HG:=hid HG
   have hs0:=HA.out.size (i:=0) (by have:=HA.out.m16;omega)
   obtain ⟨F,hF⟩:∃ F,F = hadX X k:=⟨_,rfl⟩
   obtain ⟨G,hG⟩:∃ G,G = usedTo X k:=⟨_,rfl⟩
   have hFG:∀ i,G i = (decide (i < 9) || (decide (i < m) && F i)):=fun i=>by rw [hF,hG];exact used_is HA.out HT.out i
   have HFG:=hid hFG
   have HGE:=hid hG
   have HK32:=hid hk32
   have HUS:=hid (fun i hi W=>vused_calls hs0 i hi W)
   rw [<- hF] at HG
   clear HL hk32 hs0 hF hG hFG hlt
   go_wp2_with fail
   refine HG.out.mono ?_
   rintro e w5 ⟨rfl,L5⟩
   have HL5:=hid L5
   clear L5 HG
   go_wp2_with fail
   go_loopw [9,10,37] (fun _ _ s37 wr=>∃ i:Nat,i <= 512 /\ s37 = .int .i64 i /\ Hid (∀ q,q < i -> usedP (X 0) q = G q) /\ Hid (VV S0 w0 v b d L (Star (blkA hb tBool (boolL F m)) B) wr)) (fun _ _ s37 _=>512 - (intOf s37).toNat)
   case atStart=>exact ⟨0,Nat.zero_le _,rfl,hid (fun q hq=>by omega),HL5⟩
   case round =>
    clear HL5
    obtain ⟨i,hi,rfl,HQ,HL⟩:=hrel
    by_cases hil:i < 512
    ·have hil2:(i:Int) < 512:=by omega
     have HU:=hid (HUS.out i hil)
     have HIL:=hid hil
     have hfin:∀ u:Bool,usedP (X 0) i = u -> (u = G i /\ Hid (∀ q,q < i + 1 -> usedP (X 0) q = G q)) \/ (u ≠ G i /\ ¬ Whole m X):=fun u hu=>by
      by_cases e:u = G i
      ·refine .inl ⟨e,hid fun q hq=>?_⟩
       by_cases e2:q = i
       ·rw [e2,hu,e]
       ·exact HQ.out q (by omega)
      ·refine .inr ⟨e,fun h=>e ?_⟩
       have:=h.map i hil
       have h2:usedTo X 32 = G:=by rw [HGE.out,HK32.out]
       rw [h2,hu] at this
       exact this
     obtain ⟨u,hu⟩:∃ u,u = usedP (X 0) i:=⟨_,rfl⟩
     have HFIN:=hid (hfin u hu.symm)
     rw [<- hu] at HU
     obtain ⟨g,hg⟩:∃ g,g = G i:=⟨_,rfl⟩
     rw [<- hg] at HFIN
     have hgv:g = (decide (i < 9) || (decide (i < m) && F i)):=by rw [hg];exact HFG.out i
     clear hfin hu hg hil
     have hcases:(i < 9 /\ g = true) \/ (¬ i < 9 /\ i < m /\ g = F i) \/ (¬ i < 9 /\ ¬ i < m /\ g = false):=by
      by_cases h9:i < 9
      ·exact .inl ⟨h9,by rw [hgv];simp [h9]⟩
      ·by_cases hm:i < m
       ·exact .inr (.inl ⟨h9,hm,by rw [hgv];simp [h9,hm]⟩)
       ·exact .inr (.inr ⟨h9,hm,by rw [hgv];simp [h9,hm]⟩)
     clear hgv
     rcases hcases with ⟨h9,rfl⟩ | ⟨h9,hm,hgF⟩ | ⟨h9,hm,rfl⟩
     ·have h9':(i:Int) < 9:=by omega
      cases u with
      | true =>
       rcases HFIN.out with ⟨_,HQ2⟩ | ⟨hne,_⟩
       ·go_wp2_with fail
        refine (HU.out _).mono ?_
        rintro e w7 ⟨rfl,rfl⟩
        go_wp2_with fail
        go_roundw
        case rel=>exact ⟨i + 1,HIL.out,by go_num,HQ2,HL⟩
        case measure=>simp [intOf];have:=HIL.out;omega
       ·exact absurd rfl hne
      | false =>
       rcases HFIN.out with ⟨he,_⟩ | ⟨_,hbad⟩
       ·cases he
       ·have HBAD:=hid hbad
        have HE:=hid (VV.gone (VV.less HL.out))
        clear hbad
        go_wp2_with fail
        refine (HU.out _).mono ?_
        rintro e w7 ⟨rfl,rfl⟩
        go_wp2_with fail
        go_ret2
        exact .inr ⟨HBAD.out,rfl,HE.out⟩
     ·have h9':¬ (i:Int) < 9:=by omega
      have hm':(i:Int) < (m:Int):=by omega
      have q0:=(VV.blk HL.out).cell (boolL_get F hm)
      rw [<- hgF] at q0
      clear hgF
      cases g with
      | true =>
       cases u with
       | true =>
        rcases HFIN.out with ⟨_,HQ2⟩ | ⟨hne,_⟩
        ·go_wp2_with fail
         refine (HU.out _).mono ?_
         rintro e w7 ⟨rfl,rfl⟩
         go_wp2_with fail
         go_roundw
         case rel=>exact ⟨i + 1,HIL.out,by go_num,HQ2,HL⟩
         case measure=>simp [intOf];have:=HIL.out;omega
        ·exact absurd rfl hne
       | false =>
        rcases HFIN.out with ⟨he,_⟩ | ⟨_,hbad⟩
        ·cases he
        ·have HBAD:=hid hbad
         have HE:=hid (VV.gone (VV.less HL.out))
         clear hbad
         go_wp2_with fail
         refine (HU.out _).mono ?_
         rintro e w7 ⟨rfl,rfl⟩
         go_wp2_with fail
         go_ret2
         exact .inr ⟨HBAD.out,rfl,HE.out⟩
      | false =>
       cases u with
       | false =>
        rcases HFIN.out with ⟨_,HQ2⟩ | ⟨hne,_⟩
        ·go_wp2_with fail
         refine (HU.out _).mono ?_
         rintro e w7 ⟨rfl,rfl⟩
         go_wp2_with fail
         go_roundw
         case rel=>exact ⟨i + 1,HIL.out,by go_num,HQ2,HL⟩
         case measure=>simp [intOf];have:=HIL.out;omega
        ·exact absurd rfl hne
       | true =>
        rcases HFIN.out with ⟨he,_⟩ | ⟨_,hbad⟩
        ·cases he
        ·have HBAD:=hid hbad
         have HE:=hid (VV.gone (VV.less HL.out))
         clear hbad
         go_wp2_with fail
         refine (HU.out _).mono ?_
         rintro e w7 ⟨rfl,rfl⟩
         go_wp2_with fail
         go_ret2
         exact .inr ⟨HBAD.out,rfl,HE.out⟩
     ·have h9':¬ (i:Int) < 9:=by omega
      have hm':¬ (i:Int) < (m:Int):=by omega
      cases u with
      | false =>
       rcases HFIN.out with ⟨_,HQ2⟩ | ⟨hne,_⟩
       ·go_wp2_with fail
        refine (HU.out _).mono ?_
        rintro e w7 ⟨rfl,rfl⟩
        go_wp2_with fail
        go_roundw
        case rel=>exact ⟨i + 1,HIL.out,by go_num,HQ2,HL⟩
        case measure=>simp [intOf];have:=HIL.out;omega
       ·exact absurd rfl hne
      | true =>
       rcases HFIN.out with ⟨he,_⟩ | ⟨_,hbad⟩
       ·cases he
       ·have HBAD:=hid hbad
        have HE:=hid (VV.gone (VV.less HL.out))
        clear hbad
        go_wp2_with fail
        refine (HU.out _).mono ?_
        rintro e w7 ⟨rfl,rfl⟩
        go_wp2_with fail
        go_ret2
        exact .inr ⟨HBAD.out,rfl,HE.out⟩
    ·have HW:Hid (Whole m X):=hid ⟨fun n hn=>HT.out n (by have:=HK32.out;omega),fun q hq=>by
      have h2:usedTo X 32 = G:=by rw [HGE.out,HK32.out]
      rw [h2];exact HQ.out q (by omega)⟩
     have HE:=hid (VV.less HL.out)
     have hge2:¬ (i:Int) < 512:=by omega
     clear HL
     go_wp2_with fail
     go_ret2
     exact .inl ⟨HW.out,v,rfl,HE.out⟩
end
end
end Go.Proofs.YtngalllaiphkhaaGreatDoor
