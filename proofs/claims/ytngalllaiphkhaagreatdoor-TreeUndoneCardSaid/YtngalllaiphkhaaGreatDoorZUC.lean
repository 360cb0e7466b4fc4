import Derived.Test.YtngalllaiphkhaaGreatDoorZUB
namespace Go.Proofs.YtngalllaiphkhaaGreatDoor
open Go.RowKit
open Go.Lib (hid)
set_option maxRecDepth 100000
set_option maxHeartbeats 16000000
set_option linter.unusedVariables false
set_option linter.unusedSimpArgs false
section
variable {T:Tr} {m:Nat}
theorem DocOk.set (h:DocOk T) {n:Nat} {x:TN} (h0:x.kind = 0 -> x = TN.free) (h1:∀ o ∈ x.slots,SlotOk o) (h2:x.up < 255) (h3:x.slots.length <= 148) (h4:x.data.length <= 2368) (h5:x.kind <= 2) (h6:x.links <= 256):DocOk (setT T n x):=by
 have key:∀ (P:TN -> Prop),P x -> (∀ j,j < 32 -> P (T j)) -> ∀ j,j < 32 -> P (setT T n x j):=fun P hx hT j hj=>by
  by_cases e:j = n
  ·subst e;rw [setT_at];exact hx
  ·rw [setT_ne _ _ e];exact hT j hj
 exact ⟨key (fun x=>x.kind = 0 -> x = TN.free) h0 h.free,key (fun x=>∀ o ∈ x.slots,SlotOk o) h1 h.ok,key (fun x=>x.up < 255) h2 h.up,key (fun x=>x.slots.length <= 148) h3 h.len,key (fun x=>x.data.length <= 2368) h4 h.data,key (fun x=>x.kind <= 2) h5 h.kind,key (fun x=>x.links <= 256) h6 h.links⟩
theorem DocOk.put (h:DocOk T) {d:Nat} (hd:d < 32) (hk:(T d).kind ≠ 0) (hl:(T d).slots.length <= 147) {y:Nat × ByteArray} (hy:SlotOk (some y)):DocOk (putT T d y):=by
 refine h.set (fun e=>absurd e hk) (fun o ho=>?_) (h.up d hd) ?_ (h.data d hd) (h.kind d hd) (h.links d hd)
 ·rcases putL_mem ho with rfl | ho
  ·exact hy
  ·exact h.ok d hd o ho
 ·show (putL y (T d).slots).length <= 148
  rcases put_place y (T d).slots with ⟨h1,_,h3⟩ | ⟨h1,h2⟩
  ·rw [h3,List.length_set];omega
  ·rw [h2,List.length_append,List.length_singleton];omega
theorem DocOk.make (h:TInv T) {n d kind:Nat} {s:ByteArray} (hn:n < 32) (hn0:(T n).kind = 0) (hd:d < 32) (hk:(T d).kind = 2) (hs:namedT s = true) (hkind:kind = 1 \/ kind = 2):DocOk (makeU T kind d n s):=by
 have hdn:d ≠ n:=fun e=>by subst e;omega
 have hz:=h.size d hd hk
 refine DocOk.put (DocOk.set h.docok (fun e=>?_) (fun o ho=>by simp at ho) ?_ (by simp) (by simp) ?_ (by simp)) hd ?_ ?_ ⟨hn,hs⟩
 ·simp at e;omega
 ·show (if kind = 2 then d else 0) < 255
  split <;> omega
 ·show kind <= 2;omega
 ·rw [setT_ne _ _ hdn];omega
 ·rw [setT_ne _ _ hdn];omega
theorem first_is {n:Nat} (hf:firstT T = some n) {i:Nat} (hi:i < 32) (h:∀ j,j < i -> (T j).kind ≠ 0) (h0:(T i).kind = 0):i = n:=by
 unfold firstT at hf
 obtain ⟨hn,l1,l2,hl,hb⟩:=List.find?_eq_some_iff_append.1 hf
 have hn0:(T n).kind = 0:=by simpa using hn
 have hn32:n < 32:=by
  have:=List.mem_of_find?_eq_some hf
  simpa using this
 by_cases h1:n < i
 ·exact absurd hn0 (h n h1)
 ·by_cases h2:i < n
  ·exfalso
   have hlen:l1.length = n:=by
    have h3:(List.range 32)[l1.length]? = some n:=by rw [hl];simp
    have h4:=(List.getElem?_eq_some_iff.1 h3).2
    simpa using h4
   have h5:i ∈ l1:=by
    have h6:(List.range 32)[i]? = some i:=by simp [hi]
    rw [hl,List.getElem?_append_left (by omega)] at h6
    exact List.mem_of_getElem? h6
   have:=hb i h5
   simp [h0] at this
  ·omega
theorem first_no (hf:firstT T = none) (i:Nat) (hi:i < 32):(T i).kind ≠ 0:=fun h=>by
 have:=List.find?_eq_none.1 hf i (List.mem_range.2 hi)
 simp [h] at this
variable {from_ kind:Int} {path s:ByteArray} {d n:Nat}
theorem mk_kind (h:kind ≠ 1 /\ kind ≠ 2):makeT m T from_ path kind = (1,T) /\ makeN m T from_ path kind = 0:=by
 have e:makeT m T from_ path kind = (1,T):=by unfold makeT;rw [if_pos h]
 exact ⟨e,by unfold makeN;rw [e,if_neg (show ¬ (1:Int) = 0 by decide)]⟩
theorem mk_last {E:Int} (h:¬ (kind ≠ 1 /\ kind ≠ 2)) (hl:lastT T from_ path = (d,s,E)) (hE:E ≠ 0):makeT m T from_ path kind = (E,T) /\ makeN m T from_ path kind = 0:=by
 have e:makeT m T from_ path kind = (E,T):=by unfold makeT;rw [if_neg h,hl];simp only;rw [if_pos hE]
 exact ⟨e,by unfold makeN;rw [e,if_neg hE]⟩
theorem mk_there {k:Nat} (h:¬ (kind ≠ 1 /\ kind ≠ 2)) (hl:lastT T from_ path = (d,s,0)) (he:entryT (T d) s = some k):makeT m T from_ path kind = (9,T) /\ makeN m T from_ path kind = 0:=by
 have e:makeT m T from_ path kind = (9,T):=by unfold makeT;rw [if_neg h,hl];simp only;rw [if_neg (by decide),if_pos (by rw [he];rfl)]
 exact ⟨e,by unfold makeN;rw [e,if_neg (show ¬ (9:Int) = 0 by decide)]⟩
theorem mk_full (h:¬ (kind ≠ 1 /\ kind ≠ 2)) (hl:lastT T from_ path = (d,s,0)) (he:entryT (T d) s = none) (hf:firstT T = none):makeT m T from_ path kind = (4,T) /\ makeN m T from_ path kind = 0:=by
 have e:makeT m T from_ path kind = (4,T):=by unfold makeT;rw [if_neg h,hl];simp only;rw [if_neg (by decide),if_neg (by rw [he];decide),hf]
 exact ⟨e,by unfold makeN;rw [e,if_neg (show ¬ (4:Int) = 0 by decide)]⟩
theorem mk_no (h:¬ (kind ≠ 1 /\ kind ≠ 2)) (hl:lastT T from_ path = (d,s,0)) (he:entryT (T d) s = none) (hf:firstT T = some n) (hfit:fitsT m (makeU T kind.toNat d n s) = false):makeT m T from_ path kind = (4,T) /\ makeN m T from_ path kind = 0:=by
 have e:makeT m T from_ path kind = (4,T):=by unfold makeT;rw [if_neg h,hl];simp only;rw [if_neg (by decide),if_neg (by rw [he];decide),hf];simp only;rw [if_neg (by rw [hfit];decide)]
 exact ⟨e,by unfold makeN;rw [e,if_neg (show ¬ (4:Int) = 0 by decide)]⟩
theorem mk_ok (h:¬ (kind ≠ 1 /\ kind ≠ 2)) (hl:lastT T from_ path = (d,s,0)) (he:entryT (T d) s = none) (hf:firstT T = some n) (hfit:fitsT m (makeU T kind.toNat d n s) = true):makeT m T from_ path kind = (0,makeU T kind.toNat d n s) /\ makeN m T from_ path kind = n:=by
 have e:makeT m T from_ path kind = (0,makeU T kind.toNat d n s):=by unfold makeT;rw [if_neg h,hl];simp only;rw [if_neg (by decide),if_neg (by rw [he];decide),hf];simp only;rw [if_pos hfit]
 exact ⟨e,by unfold makeN;rw [e,if_pos rfl,hf];rfl⟩
end
section
variable {S0:Nat -> Prop} {w0 w:World} {r g c m:Nat} {sp:List Value} {T:Tr} {us:Nat -> Value} {B R:Asr}
theorem dmake_calls (hX:Lv S0 w0 (Star (docX r m T) B) w) (hB:Loc B) (hI:TInv T) (hm:m <= 512) (from_ kind:Int) (path:ByteArray) :
 Calls Tryz.prog 139 #[.pointer (some ⟨r,0,none⟩),.int .i64 from_,.string path,.int .i64 kind] w fun e w'=>e = .returned (.tuple #[.int .i64 (makeN m T from_ path kind),.int .i64 (makeT m T from_ path kind).1]) /\ Lv S0 w0 (Star (docX r m (makeT m T from_ path kind).2) B) w':=by
 by_cases hkd:kind ≠ 1 /\ kind ≠ 2
 ·obtain ⟨e1,e2⟩:=mk_kind (m:=m) (T:=T) (from_:=from_) (path:=path) hkd
  rw [e1,e2]
  have t1:(kind != 1) = true:=bne_iff_ne.2 hkd.1
  have t2:(kind != 2) = true:=bne_iff_ne.2 hkd.2
  have HX:=hid hX
  clear hX hB hI e1 e2 hkd
  go_enter Tryz.func139,Tryz.ntmps139
  go_wp2_with fail
  go_ret2
  exact ⟨rfl,HX.out⟩
 ·have HLS:=hid (dlast_calls hX hB hI from_ path)
  have HKD:=hid hkd
  have HI:=hid hI
  have HBL:=hid hB
  have HM:=hid hm
  obtain ⟨d,hd⟩:∃ d,d = (lastT T from_ path).1:=⟨_,rfl⟩
  obtain ⟨s,hs⟩:∃ s,s = (lastT T from_ path).2.1:=⟨_,rfl⟩
  obtain ⟨E,hE⟩:∃ E,E = (lastT T from_ path).2.2:=⟨_,rfl⟩
  have hl:lastT T from_ path = (d,s,E):=by rw [hd,hs,hE]
  rw [<- hd,<- hs,<- hE] at HLS
  have HOK:Hid (E = 0 -> d < 32 /\ (T d).kind = 2 /\ namedT s = true):=hid fun h=>by
   have:=lastT_ok hI (from_:=from_) (path:=path) (by rw [<- hE];exact h)
   rw [hl] at this
   exact this
  clear hd hs hE hX hB hI
  obtain ⟨k1,hk1⟩:∃ b,b = (kind != 1):=⟨_,rfl⟩
  by_cases hE:E = 0
  ·subst hE
   obtain ⟨hd,hdk,hnm⟩:=HOK.out rfl
   have HDD:=hid hd
   have hdl:=HI.out.size d hd hdk
   have HDL:Hid ((T d).slots.length <= 147):=hid (by omega)
   have HEN:Hid (∀ (W:World),Lv S0 w0 (Star (docX r m T) B) W -> Calls Tryz.prog 132 #[.pointer (some ⟨r,0,none⟩),.int .i64 d,.string s] W fun e w'=>e = .returned (.int .i64 (entryI (T d) s)) /\ W = w'):=hid fun W hW=>by
    obtain ⟨g,c,sp,us,hL⟩:=docX_open hW
    exact dentry_calls hL hd (by omega) s
   cases hen:entryT (T d) s with
   | some k =>
    obtain ⟨e1,e2⟩:=mk_there (m:=m) hkd hl hen
    rw [e1,e2]
    have hei:entryI (T d) s = (k:Int):=by unfold entryI;rw [hen]
    rw [hei] at HEN
    have g0:(0:Int) <= (k:Int):=by omega
    have hk3:kind = 1 \/ kind = 2:=by omega
    clear e1 e2 hei hen hl hd hdk hnm hdl hkd hk1
    rcases hk3 with rfl | rfl
    all_goals
     go_enter Tryz.func139,Tryz.ntmps139
     go_wp2_with fail
     refine HLS.out.mono ?_
     rintro e w1 ⟨rfl,L1⟩
     have HX2:=hid L1
     have HE2:=hid (HEN.out w1 L1)
     clear L1
     go_wp2_with fail
     refine HE2.out.mono ?_
     rintro e w2 ⟨rfl,rfl⟩
     go_wp2_with fail
     go_ret2
     exact ⟨rfl,HX2.out⟩
   | none =>
    have hei:entryI (T d) s = -1:=by unfold entryI;rw [hen]
    rw [hei] at HEN
    have hk3:kind = 1 \/ kind = 2:=by omega
    cases hf:firstT T with
    | none =>
     obtain ⟨e1,e2⟩:=mk_full (m:=m) hkd hl hen hf
     rw [e1,e2]
     have HNONE:=hid (first_no hf)
     clear e1 e2 hei hen hl hd hdk hnm hdl hkd hk1 hf
     rcases hk3 with rfl | rfl
     all_goals
      go_enter Tryz.func139,Tryz.ntmps139
      go_wp2_with fail
      refine HLS.out.mono ?_
      rintro e w1 ⟨rfl,L1⟩
      have HX2:=hid L1
      have HE2:=hid (HEN.out w1 L1)
      obtain ⟨g,c,sp,us,hL⟩:=docX_open L1
      have HC:=hid (doc_cells hL)
      have c1:=HC.out.2.1
      clear L1 hL
      go_wp2_with fail
      refine HE2.out.mono ?_
      rintro e w2 ⟨rfl,rfl⟩
      go_wp2_with fail
      go_loopw [14] (fun s14 wr=>∃ i:Nat,i <= 32 /\ s14 = .int .i64 i /\ wr = w1 /\ Hid (∀ j,j < i -> (T j).kind ≠ 0)) (fun s14 _=>32 - (intOf s14).toNat)
      case atStart=>exact ⟨0,Nat.zero_le _,rfl,rfl,hid fun j h=>absurd h (Nat.not_lt_zero j)⟩
      case round =>
       obtain ⟨i,hi,rfl,hwr,HB0⟩:=hrel
       rw [hwr]
       clear hwr
       by_cases hlt:i < 32
       ·have hlt2:(i:Int) < 32:=by omega
        have d0:=(HC.out.2.2 i hlt).1
        obtain ⟨kd,hkd⟩:∃ k:Int,k = (T i).kind:=⟨_,rfl⟩
        rw [<- hkd] at d0
        by_cases hk:kd = 0
        ·have t0:(kd != 0) = false:=by simpa using hk
         exact absurd (HNONE.out i hlt) (by omega)
        ·have t0:(kd != 0) = true:=by simpa using hk
         have HB2:Hid (∀ j,j < i + 1 -> (T j).kind ≠ 0):=hid fun j hj=>by
          by_cases e:j < i
          ·exact HB0.out j e
          ·obtain rfl:j = i:=by omega
           omega
         clear hk hkd
         go_wp2_with fail
         go_roundw
         case rel=>exact ⟨i + 1,hlt,by go_num,by first | trivial | rfl,HB2⟩
         case measure=>simp [intOf] <;> omega
       ·obtain rfl:i = 32:=by omega
        have hlt2:¬ (32:Int) < 32:=by omega
        go_wp2_with fail
        go_ret2
        exact ⟨rfl,HX2.out⟩
    | some n =>
     obtain ⟨hn,hn0⟩:=first_some hf
     have HFST:=hid (fun i=>first_is hf (i:=i))
     have HN32:Hid (n < 32 /\ (T n).kind = 0):=hid ⟨hn,hn0⟩
     have hdn:d ≠ n:=fun e=>by subst e;omega
     have HNE:=hid hdn
     rcases hk3 with rfl | rfl
     ·obtain ⟨UU,hUU⟩:∃ UU,UU = makeU T 1 d n s:=⟨_,rfl⟩
      have hdoc:=DocOk.make HI.out hn hn0 hd hdk hnm (kind:=1) (by decide)
      rw [<- hUU] at hdoc
      have HDOC:=hid hdoc
      have HUU:Hid (UU = putT (setT T n ⟨1,1,[],[],0,0⟩) d (n,s)):=hid hUU
      cases hfit:fitsT m UU with
      | true =>
       obtain ⟨e1,e2⟩:=mk_ok (m:=m) hkd hl hen hf (by rw [<- show UU = makeU T ((1:Int).toNat) d n s from hUU];exact hfit)
       rw [e1,e2,<- show UU = makeU T ((1:Int).toNat) d n s from hUU]
       have HFIT:=hid hfit
       clear e1 e2 hei hen hl hd hdk hnm hdl hkd hk1 hf hn hn0 hdn hUU hdoc hfit
       go_enter Tryz.func139,Tryz.ntmps139
       go_wp2_with fail
       refine HLS.out.mono ?_
       rintro e w1 ⟨rfl,L1⟩
       have HE2:=hid (HEN.out w1 L1)
       have HCP:=hid (dcopy_calls L1 HBL.out HI.out.docok)
       obtain ⟨g,c,sp,us,hL⟩:=docX_open L1
       have HC:=hid (doc_cells hL)
       have c1:=HC.out.2.1
       clear L1 hL
       go_wp2_with fail
       refine HE2.out.mono ?_
       rintro e w2 ⟨rfl,rfl⟩
       go_wp2_with fail
       go_loopw [14] (fun s14 wr=>∃ i:Nat,i <= 32 /\ s14 = .int .i64 i /\ wr = w1 /\ Hid (∀ j,j < i -> (T j).kind ≠ 0)) (fun s14 _=>32 - (intOf s14).toNat)
       case atStart=>exact ⟨0,Nat.zero_le _,rfl,rfl,hid fun j h=>absurd h (Nat.not_lt_zero j)⟩
       case round =>
        obtain ⟨i,hi,rfl,hwr,HB0⟩:=hrel
        rw [hwr]
        clear hwr
        by_cases hlt:i < 32
        ·have hlt2:(i:Int) < 32:=by omega
         have d0:=(HC.out.2.2 i hlt).1
         obtain ⟨kd,hkd⟩:∃ k:Int,k = (T i).kind:=⟨_,rfl⟩
         rw [<- hkd] at d0
         by_cases hk:kd = 0
         ·have t0:(kd != 0) = false:=by simpa using hk
          have hin:i = n:=HFST.out i hlt HB0.out (by omega)
          subst hin
          have hn2:((i:Int) == 32) = false:=by rw [beq_eq_false_iff_ne];omega
          clear hk hkd
          go_wp2_with fail
          refine HCP.out.mono ?_
          rintro e w3 ⟨q,rfl,L3⟩
          have hB3:Loc (Star (docX r m T) B):=loc_star (loc_docX _ _ _) HBL.out
          obtain ⟨gq,cq,spq,usq,hLq⟩:=docX_open L3
          have v1:=(doc_cells hLq).2.1
          have nq:q ≠ gq:=(doc_blk hLq).1.ne (doc_blk hLq).2 (by decide)
          obtain ⟨e0,e1,e2,e3,e4,e5⟩:=(doc_cells hLq).2.2 i hlt
          have f0:=(doc_free hLq (i * 6)).1
          have f1:=(doc_free hLq (i * 6 + 1)).1
          have f2:=(doc_free hLq (i * 6 + 2)).1
          have f3:=(doc_free hLq (i * 6 + 3)).1
          have f4:=(doc_free hLq (i * 6 + 4)).1
          have f5:=(doc_free hLq (i * 6 + 5)).1
          have L4:=doc_node hLq hB3 hlt ⟨1,1,[],[],0,0⟩ rfl
          obtain ⟨w4,hw4⟩:∃ w4,w4 = ((((((w3.setCell ⟨gq,i * 6,none⟩ (.int .i64 1)).setCell ⟨gq,i * 6 + 1,none⟩ (.int .i64 1)).setCell ⟨gq,i * 6 + 2,none⟩ (.string ⟨#[]⟩)).setCell ⟨gq,i * 6 + 3,none⟩ (.slice none 0 0)).setCell ⟨gq,i * 6 + 4,none⟩ (.int .i64 0)).setCell ⟨gq,i * 6 + 5,none⟩ (.int .i64 0)):=⟨_,rfl⟩
          have hw4':w4 = ((((((w3.setCell ⟨gq,i * 6,none⟩ (.int .i64 ((1:Nat):Int))).setCell ⟨gq,i * 6 + 1,none⟩ (.int .i64 ((1:Nat):Int))).setCell ⟨gq,i * 6 + 2,none⟩ (.string ⟨([]:List UInt8).toArray⟩)).setCell ⟨gq,i * 6 + 3,none⟩ (.slice none 0 0)).setCell ⟨gq,i * 6 + 4,none⟩ (.int .i64 ((0:Nat):Int))).setCell ⟨gq,i * 6 + 5,none⟩ (.int .i64 ((0:Nat):Int))):=hw4
          have L4:Lv S0 w0 (Star (docA q gq cq spq m (setT T i ⟨1,1,[],[],0,0⟩) (setU usq i (.slice none 0 0))) (Star (docX r m T) B)) w4:=by rw [hw4'];exact L4
          have HW4:=hid hw4
          have HL4:=hid L4
          have v4:=(doc_cells L4).2.1
          have x4:=((doc_cells L4).2.2 i hlt).2.2.2.2.1
          have g4:=(doc_free L4 (i * 6 + 4)).1
          rw [setT_at] at x4
          generalize (⟨(T i).data.toArray⟩:ByteArray) = ob at *
          generalize usq i = ou at *
          clear L3 hLq hw4 hw4' L4
          have LP:Hid (Lv S0 w0 (Star (docX q m (setT T i ⟨1,1,[],[],0,0⟩)) (Star (docX r m T) B)) w4):=hid (docX_shut HL4.out)
          go_wp2_with fail
          rw [<- HW4.out]
          clear HL4
          have hU0:(setT T i ⟨1,1,[],[],0,0⟩ d).slots.length <= 1000:=by
           have:=HDL.out
           rw [setT_ne _ _ HNE.out]
           omega
          have HPT:=hid (dput_calls LP.out hB3 HDD.out hU0 (i,s))
          clear hU0 LP
          refine HPT.out.mono ?_
          rintro e w6 ⟨rfl,L6⟩
          have L6:Lv S0 w0 (Star (docX q m UU) (Star (docX r m T) B)) w6:=by rw [HUU.out];exact L6
          have hfi:=dfits_calls L6 hB3 HDOC.out HM.out
          rw [HFIT.out] at hfi
          have HFI:=hid hfi
          clear hfi
          clear L6 HPT
          go_wp2_with fail
          refine HFI.out.mono ?_
          rintro e w7 ⟨rfl,L7⟩
          have HL7:=hid L7
          clear L7 HFI
          obtain ⟨g8,c8,sp8,us8,h8⟩:=docX_open HL7.out
          obtain ⟨g9,c9,sp9,us9,h9⟩:=docX_open (h8.map fun _ h=>star_flip h)
          have u1:=(doc_cells h8).2.1
          have r1:=(doc_cells h9).2.1
          have rf:=(doc_free h9 1).2
          have HT9:=hid (docX_shut (doc_take (h9.map fun _ h=>star_flip h) HBL.out))
          clear h8 h9 HL7
          go_wp2_with fail
          go_ret2
          exact ⟨rfl,HT9.out⟩
         ·have t0:(kd != 0) = true:=by simpa using hk
          have HB2:Hid (∀ j,j < i + 1 -> (T j).kind ≠ 0):=hid fun j hj=>by
           by_cases e:j < i
           ·exact HB0.out j e
           ·obtain rfl:j = i:=by omega
            omega
          clear hk hkd
          go_wp2_with fail
          go_roundw
          case rel=>exact ⟨i + 1,hlt,by go_num,by first | trivial | rfl,HB2⟩
          case measure=>simp [intOf] <;> omega
        ·obtain rfl:i = 32:=by omega
         have hlt2:¬ (32:Int) < 32:=by omega
         exact absurd (HB0.out n HN32.out.1) (by have:=HN32.out.2;omega)
      | false =>
       obtain ⟨e1,e2⟩:=mk_no (m:=m) hkd hl hen hf (by rw [<- show UU = makeU T ((1:Int).toNat) d n s from hUU];exact hfit)
       rw [e1,e2]
       have HFIT:=hid hfit
       clear e1 e2 hei hen hl hd hdk hnm hdl hkd hk1 hf hn hn0 hdn hUU hdoc hfit
       go_enter Tryz.func139,Tryz.ntmps139
       go_wp2_with fail
       refine HLS.out.mono ?_
       rintro e w1 ⟨rfl,L1⟩
       have HE2:=hid (HEN.out w1 L1)
       have HCP:=hid (dcopy_calls L1 HBL.out HI.out.docok)
       obtain ⟨g,c,sp,us,hL⟩:=docX_open L1
       have HC:=hid (doc_cells hL)
       have c1:=HC.out.2.1
       clear L1 hL
       go_wp2_with fail
       refine HE2.out.mono ?_
       rintro e w2 ⟨rfl,rfl⟩
       go_wp2_with fail
       go_loopw [14] (fun s14 wr=>∃ i:Nat,i <= 32 /\ s14 = .int .i64 i /\ wr = w1 /\ Hid (∀ j,j < i -> (T j).kind ≠ 0)) (fun s14 _=>32 - (intOf s14).toNat)
       case atStart=>exact ⟨0,Nat.zero_le _,rfl,rfl,hid fun j h=>absurd h (Nat.not_lt_zero j)⟩
       case round =>
        obtain ⟨i,hi,rfl,hwr,HB0⟩:=hrel
        rw [hwr]
        clear hwr
        by_cases hlt:i < 32
        ·have hlt2:(i:Int) < 32:=by omega
         have d0:=(HC.out.2.2 i hlt).1
         obtain ⟨kd,hkd⟩:∃ k:Int,k = (T i).kind:=⟨_,rfl⟩
         rw [<- hkd] at d0
         by_cases hk:kd = 0
         ·have t0:(kd != 0) = false:=by simpa using hk
          have hin:i = n:=HFST.out i hlt HB0.out (by omega)
          subst hin
          have hn2:((i:Int) == 32) = false:=by rw [beq_eq_false_iff_ne];omega
          clear hk hkd
          go_wp2_with fail
          refine HCP.out.mono ?_
          rintro e w3 ⟨q,rfl,L3⟩
          have hB3:Loc (Star (docX r m T) B):=loc_star (loc_docX _ _ _) HBL.out
          obtain ⟨gq,cq,spq,usq,hLq⟩:=docX_open L3
          have v1:=(doc_cells hLq).2.1
          have nq:q ≠ gq:=(doc_blk hLq).1.ne (doc_blk hLq).2 (by decide)
          obtain ⟨e0,e1,e2,e3,e4,e5⟩:=(doc_cells hLq).2.2 i hlt
          have f0:=(doc_free hLq (i * 6)).1
          have f1:=(doc_free hLq (i * 6 + 1)).1
          have f2:=(doc_free hLq (i * 6 + 2)).1
          have f3:=(doc_free hLq (i * 6 + 3)).1
          have f4:=(doc_free hLq (i * 6 + 4)).1
          have f5:=(doc_free hLq (i * 6 + 5)).1
          have L4:=doc_node hLq hB3 hlt ⟨1,1,[],[],0,0⟩ rfl
          obtain ⟨w4,hw4⟩:∃ w4,w4 = ((((((w3.setCell ⟨gq,i * 6,none⟩ (.int .i64 1)).setCell ⟨gq,i * 6 + 1,none⟩ (.int .i64 1)).setCell ⟨gq,i * 6 + 2,none⟩ (.string ⟨#[]⟩)).setCell ⟨gq,i * 6 + 3,none⟩ (.slice none 0 0)).setCell ⟨gq,i * 6 + 4,none⟩ (.int .i64 0)).setCell ⟨gq,i * 6 + 5,none⟩ (.int .i64 0)):=⟨_,rfl⟩
          have hw4':w4 = ((((((w3.setCell ⟨gq,i * 6,none⟩ (.int .i64 ((1:Nat):Int))).setCell ⟨gq,i * 6 + 1,none⟩ (.int .i64 ((1:Nat):Int))).setCell ⟨gq,i * 6 + 2,none⟩ (.string ⟨([]:List UInt8).toArray⟩)).setCell ⟨gq,i * 6 + 3,none⟩ (.slice none 0 0)).setCell ⟨gq,i * 6 + 4,none⟩ (.int .i64 ((0:Nat):Int))).setCell ⟨gq,i * 6 + 5,none⟩ (.int .i64 ((0:Nat):Int))):=hw4
          have L4:Lv S0 w0 (Star (docA q gq cq spq m (setT T i ⟨1,1,[],[],0,0⟩) (setU usq i (.slice none 0 0))) (Star (docX r m T) B)) w4:=by rw [hw4'];exact L4
          have HW4:=hid hw4
          have HL4:=hid L4
          have v4:=(doc_cells L4).2.1
          have x4:=((doc_cells L4).2.2 i hlt).2.2.2.2.1
          have g4:=(doc_free L4 (i * 6 + 4)).1
          rw [setT_at] at x4
          generalize (⟨(T i).data.toArray⟩:ByteArray) = ob at *
          generalize usq i = ou at *
          clear L3 hLq hw4 hw4' L4
          have LP:Hid (Lv S0 w0 (Star (docX q m (setT T i ⟨1,1,[],[],0,0⟩)) (Star (docX r m T) B)) w4):=hid (docX_shut HL4.out)
          go_wp2_with fail
          rw [<- HW4.out]
          clear HL4
          have hU0:(setT T i ⟨1,1,[],[],0,0⟩ d).slots.length <= 1000:=by
           have:=HDL.out
           rw [setT_ne _ _ HNE.out]
           omega
          have HPT:=hid (dput_calls LP.out hB3 HDD.out hU0 (i,s))
          clear hU0 LP
          refine HPT.out.mono ?_
          rintro e w6 ⟨rfl,L6⟩
          have L6:Lv S0 w0 (Star (docX q m UU) (Star (docX r m T) B)) w6:=by rw [HUU.out];exact L6
          have hfi:=dfits_calls L6 hB3 HDOC.out HM.out
          rw [HFIT.out] at hfi
          have HFI:=hid hfi
          clear hfi
          clear L6 HPT
          go_wp2_with fail
          refine HFI.out.mono ?_
          rintro e w7 ⟨rfl,L7⟩
          have HL7:=hid L7
          clear L7 HFI
          go_wp2_with fail
          go_ret2
          exact ⟨rfl,HL7.out.drop⟩
         ·have t0:(kd != 0) = true:=by simpa using hk
          have HB2:Hid (∀ j,j < i + 1 -> (T j).kind ≠ 0):=hid fun j hj=>by
           by_cases e:j < i
           ·exact HB0.out j e
           ·obtain rfl:j = i:=by omega
            omega
          clear hk hkd
          go_wp2_with fail
          go_roundw
          case rel=>exact ⟨i + 1,hlt,by go_num,by first | trivial | rfl,HB2⟩
          case measure=>simp [intOf] <;> omega
        ·obtain rfl:i = 32:=by omega
         have hlt2:¬ (32:Int) < 32:=by omega
         exact absurd (HB0.out n HN32.out.1) (by have:=HN32.out.2;omega)
     ·obtain ⟨UU,hUU⟩:∃ UU,UU = makeU T 2 d n s:=⟨_,rfl⟩
      have hdoc:=DocOk.make HI.out hn hn0 hd hdk hnm (kind:=2) (by decide)
      rw [<- hUU] at hdoc
      have HDOC:=hid hdoc
      have HUU:Hid (UU = putT (setT T n ⟨2,1,[],[],d,0⟩) d (n,s)):=hid hUU
      cases hfit:fitsT m UU with
      | true =>
       obtain ⟨e1,e2⟩:=mk_ok (m:=m) hkd hl hen hf (by rw [<- show UU = makeU T ((2:Int).toNat) d n s from hUU];exact hfit)
       rw [e1,e2,<- show UU = makeU T ((2:Int).toNat) d n s from hUU]
       have HFIT:=hid hfit
       clear e1 e2 hei hen hl hd hdk hnm hdl hkd hk1 hf hn hn0 hdn hUU hdoc hfit
       go_enter Tryz.func139,Tryz.ntmps139
       go_wp2_with fail
       refine HLS.out.mono ?_
       rintro e w1 ⟨rfl,L1⟩
       have HE2:=hid (HEN.out w1 L1)
       have HCP:=hid (dcopy_calls L1 HBL.out HI.out.docok)
       obtain ⟨g,c,sp,us,hL⟩:=docX_open L1
       have HC:=hid (doc_cells hL)
       have c1:=HC.out.2.1
       clear L1 hL
       go_wp2_with fail
       refine HE2.out.mono ?_
       rintro e w2 ⟨rfl,rfl⟩
       go_wp2_with fail
       go_loopw [14] (fun s14 wr=>∃ i:Nat,i <= 32 /\ s14 = .int .i64 i /\ wr = w1 /\ Hid (∀ j,j < i -> (T j).kind ≠ 0)) (fun s14 _=>32 - (intOf s14).toNat)
       case atStart=>exact ⟨0,Nat.zero_le _,rfl,rfl,hid fun j h=>absurd h (Nat.not_lt_zero j)⟩
       case round =>
        obtain ⟨i,hi,rfl,hwr,HB0⟩:=hrel
        rw [hwr]
        clear hwr
        by_cases hlt:i < 32
        ·have hlt2:(i:Int) < 32:=by omega
         have d0:=(HC.out.2.2 i hlt).1
         obtain ⟨kd,hkd⟩:∃ k:Int,k = (T i).kind:=⟨_,rfl⟩
         rw [<- hkd] at d0
         by_cases hk:kd = 0
         ·have t0:(kd != 0) = false:=by simpa using hk
          have hin:i = n:=HFST.out i hlt HB0.out (by omega)
          subst hin
          have hn2:((i:Int) == 32) = false:=by rw [beq_eq_false_iff_ne];omega
          clear hk hkd
          go_wp2_with fail
          refine HCP.out.mono ?_
          rintro e w3 ⟨q,rfl,L3⟩
          have hB3:Loc (Star (docX r m T) B):=loc_star (loc_docX _ _ _) HBL.out
          obtain ⟨gq,cq,spq,usq,hLq⟩:=docX_open L3
          have v1:=(doc_cells hLq).2.1
          have nq:q ≠ gq:=(doc_blk hLq).1.ne (doc_blk hLq).2 (by decide)
          obtain ⟨e0,e1,e2,e3,e4,e5⟩:=(doc_cells hLq).2.2 i hlt
          have f0:=(doc_free hLq (i * 6)).1
          have f1:=(doc_free hLq (i * 6 + 1)).1
          have f2:=(doc_free hLq (i * 6 + 2)).1
          have f3:=(doc_free hLq (i * 6 + 3)).1
          have f4:=(doc_free hLq (i * 6 + 4)).1
          have f5:=(doc_free hLq (i * 6 + 5)).1
          have L4:=doc_node hLq hB3 hlt ⟨2,1,[],[],0,0⟩ rfl
          obtain ⟨w4,hw4⟩:∃ w4,w4 = ((((((w3.setCell ⟨gq,i * 6,none⟩ (.int .i64 2)).setCell ⟨gq,i * 6 + 1,none⟩ (.int .i64 1)).setCell ⟨gq,i * 6 + 2,none⟩ (.string ⟨#[]⟩)).setCell ⟨gq,i * 6 + 3,none⟩ (.slice none 0 0)).setCell ⟨gq,i * 6 + 4,none⟩ (.int .i64 0)).setCell ⟨gq,i * 6 + 5,none⟩ (.int .i64 0)):=⟨_,rfl⟩
          have hw4':w4 = ((((((w3.setCell ⟨gq,i * 6,none⟩ (.int .i64 ((2:Nat):Int))).setCell ⟨gq,i * 6 + 1,none⟩ (.int .i64 ((1:Nat):Int))).setCell ⟨gq,i * 6 + 2,none⟩ (.string ⟨([]:List UInt8).toArray⟩)).setCell ⟨gq,i * 6 + 3,none⟩ (.slice none 0 0)).setCell ⟨gq,i * 6 + 4,none⟩ (.int .i64 ((0:Nat):Int))).setCell ⟨gq,i * 6 + 5,none⟩ (.int .i64 ((0:Nat):Int))):=hw4
          have L4:Lv S0 w0 (Star (docA q gq cq spq m (setT T i ⟨2,1,[],[],0,0⟩) (setU usq i (.slice none 0 0))) (Star (docX r m T) B)) w4:=by rw [hw4'];exact L4
          have HW4:=hid hw4
          have HL4:=hid L4
          have v4:=(doc_cells L4).2.1
          have x4:=((doc_cells L4).2.2 i hlt).2.2.2.2.1
          have g4:=(doc_free L4 (i * 6 + 4)).1
          rw [setT_at] at x4
          generalize (⟨(T i).data.toArray⟩:ByteArray) = ob at *
          generalize usq i = ou at *
          clear L3 hLq hw4 hw4' L4
          have L5:=doc_turn HL4.out hB3 hlt (j:=4) (v:=.int .i64 (d:Nat)) (x:=⟨2,1,[],[],d,0⟩) (by omega) (by rw [setT_at]) (by rw [setT_at];rfl)
          rw [setT_setT] at L5
          have LP:Hid (Lv S0 w0 (Star (docX q m (setT T i ⟨2,1,[],[],d,0⟩)) (Star (docX r m T) B)) (w4.setCell ⟨gq,i * 6 + 4,none⟩ (.int .i64 d))):=hid (docX_shut L5)
          clear L5
          go_wp2_with fail
          rw [<- HW4.out]
          clear HL4
          have hU0:(setT T i ⟨2,1,[],[],d,0⟩ d).slots.length <= 1000:=by
           have:=HDL.out
           rw [setT_ne _ _ HNE.out]
           omega
          have HPT:=hid (dput_calls LP.out hB3 HDD.out hU0 (i,s))
          clear hU0 LP
          refine HPT.out.mono ?_
          rintro e w6 ⟨rfl,L6⟩
          have L6:Lv S0 w0 (Star (docX q m UU) (Star (docX r m T) B)) w6:=by rw [HUU.out];exact L6
          have hfi:=dfits_calls L6 hB3 HDOC.out HM.out
          rw [HFIT.out] at hfi
          have HFI:=hid hfi
          clear hfi
          clear L6 HPT
          go_wp2_with fail
          refine HFI.out.mono ?_
          rintro e w7 ⟨rfl,L7⟩
          have HL7:=hid L7
          clear L7 HFI
          obtain ⟨g8,c8,sp8,us8,h8⟩:=docX_open HL7.out
          obtain ⟨g9,c9,sp9,us9,h9⟩:=docX_open (h8.map fun _ h=>star_flip h)
          have u1:=(doc_cells h8).2.1
          have r1:=(doc_cells h9).2.1
          have rf:=(doc_free h9 1).2
          have HT9:=hid (docX_shut (doc_take (h9.map fun _ h=>star_flip h) HBL.out))
          clear h8 h9 HL7
          go_wp2_with fail
          go_ret2
          exact ⟨rfl,HT9.out⟩
         ·have t0:(kd != 0) = true:=by simpa using hk
          have HB2:Hid (∀ j,j < i + 1 -> (T j).kind ≠ 0):=hid fun j hj=>by
           by_cases e:j < i
           ·exact HB0.out j e
           ·obtain rfl:j = i:=by omega
            omega
          clear hk hkd
          go_wp2_with fail
          go_roundw
          case rel=>exact ⟨i + 1,hlt,by go_num,by first | trivial | rfl,HB2⟩
          case measure=>simp [intOf] <;> omega
        ·obtain rfl:i = 32:=by omega
         have hlt2:¬ (32:Int) < 32:=by omega
         exact absurd (HB0.out n HN32.out.1) (by have:=HN32.out.2;omega)
      | false =>
       obtain ⟨e1,e2⟩:=mk_no (m:=m) hkd hl hen hf (by rw [<- show UU = makeU T ((2:Int).toNat) d n s from hUU];exact hfit)
       rw [e1,e2]
       have HFIT:=hid hfit
       clear e1 e2 hei hen hl hd hdk hnm hdl hkd hk1 hf hn hn0 hdn hUU hdoc hfit
       go_enter Tryz.func139,Tryz.ntmps139
       go_wp2_with fail
       refine HLS.out.mono ?_
       rintro e w1 ⟨rfl,L1⟩
       have HE2:=hid (HEN.out w1 L1)
       have HCP:=hid (dcopy_calls L1 HBL.out HI.out.docok)
       obtain ⟨g,c,sp,us,hL⟩:=docX_open L1
       have HC:=hid (doc_cells hL)
       have c1:=HC.out.2.1
       clear L1 hL
       go_wp2_with fail
       refine HE2.out.mono ?_
       rintro e w2 ⟨rfl,rfl⟩
       go_wp2_with fail
       go_loopw [14] (fun s14 wr=>∃ i:Nat,i <= 32 /\ s14 = .int .i64 i /\ wr = w1 /\ Hid (∀ j,j < i -> (T j).kind ≠ 0)) (fun s14 _=>32 - (intOf s14).toNat)
       case atStart=>exact ⟨0,Nat.zero_le _,rfl,rfl,hid fun j h=>absurd h (Nat.not_lt_zero j)⟩
       case round =>
        obtain ⟨i,hi,rfl,hwr,HB0⟩:=hrel
        rw [hwr]
        clear hwr
        by_cases hlt:i < 32
        ·have hlt2:(i:Int) < 32:=by omega
         have d0:=(HC.out.2.2 i hlt).1
         obtain ⟨kd,hkd⟩:∃ k:Int,k = (T i).kind:=⟨_,rfl⟩
         rw [<- hkd] at d0
         by_cases hk:kd = 0
         ·have t0:(kd != 0) = false:=by simpa using hk
          have hin:i = n:=HFST.out i hlt HB0.out (by omega)
          subst hin
          have hn2:((i:Int) == 32) = false:=by rw [beq_eq_false_iff_ne];omega
          clear hk hkd
          go_wp2_with fail
          refine HCP.out.mono ?_
          rintro e w3 ⟨q,rfl,L3⟩
          have hB3:Loc (Star (docX r m T) B):=loc_star (loc_docX _ _ _) HBL.out
          obtain ⟨gq,cq,spq,usq,hLq⟩:=docX_open L3
          have v1:=(doc_cells hLq).2.1
          have nq:q ≠ gq:=(doc_blk hLq).1.ne (doc_blk hLq).2 (by decide)
          obtain ⟨e0,e1,e2,e3,e4,e5⟩:=(doc_cells hLq).2.2 i hlt
          have f0:=(doc_free hLq (i * 6)).1
          have f1:=(doc_free hLq (i * 6 + 1)).1
          have f2:=(doc_free hLq (i * 6 + 2)).1
          have f3:=(doc_free hLq (i * 6 + 3)).1
          have f4:=(doc_free hLq (i * 6 + 4)).1
          have f5:=(doc_free hLq (i * 6 + 5)).1
          have L4:=doc_node hLq hB3 hlt ⟨2,1,[],[],0,0⟩ rfl
          obtain ⟨w4,hw4⟩:∃ w4,w4 = ((((((w3.setCell ⟨gq,i * 6,none⟩ (.int .i64 2)).setCell ⟨gq,i * 6 + 1,none⟩ (.int .i64 1)).setCell ⟨gq,i * 6 + 2,none⟩ (.string ⟨#[]⟩)).setCell ⟨gq,i * 6 + 3,none⟩ (.slice none 0 0)).setCell ⟨gq,i * 6 + 4,none⟩ (.int .i64 0)).setCell ⟨gq,i * 6 + 5,none⟩ (.int .i64 0)):=⟨_,rfl⟩
          have hw4':w4 = ((((((w3.setCell ⟨gq,i * 6,none⟩ (.int .i64 ((2:Nat):Int))).setCell ⟨gq,i * 6 + 1,none⟩ (.int .i64 ((1:Nat):Int))).setCell ⟨gq,i * 6 + 2,none⟩ (.string ⟨([]:List UInt8).toArray⟩)).setCell ⟨gq,i * 6 + 3,none⟩ (.slice none 0 0)).setCell ⟨gq,i * 6 + 4,none⟩ (.int .i64 ((0:Nat):Int))).setCell ⟨gq,i * 6 + 5,none⟩ (.int .i64 ((0:Nat):Int))):=hw4
          have L4:Lv S0 w0 (Star (docA q gq cq spq m (setT T i ⟨2,1,[],[],0,0⟩) (setU usq i (.slice none 0 0))) (Star (docX r m T) B)) w4:=by rw [hw4'];exact L4
          have HW4:=hid hw4
          have HL4:=hid L4
          have v4:=(doc_cells L4).2.1
          have x4:=((doc_cells L4).2.2 i hlt).2.2.2.2.1
          have g4:=(doc_free L4 (i * 6 + 4)).1
          rw [setT_at] at x4
          generalize (⟨(T i).data.toArray⟩:ByteArray) = ob at *
          generalize usq i = ou at *
          clear L3 hLq hw4 hw4' L4
          have L5:=doc_turn HL4.out hB3 hlt (j:=4) (v:=.int .i64 (d:Nat)) (x:=⟨2,1,[],[],d,0⟩) (by omega) (by rw [setT_at]) (by rw [setT_at];rfl)
          rw [setT_setT] at L5
          have LP:Hid (Lv S0 w0 (Star (docX q m (setT T i ⟨2,1,[],[],d,0⟩)) (Star (docX r m T) B)) (w4.setCell ⟨gq,i * 6 + 4,none⟩ (.int .i64 d))):=hid (docX_shut L5)
          clear L5
          go_wp2_with fail
          rw [<- HW4.out]
          clear HL4
          have hU0:(setT T i ⟨2,1,[],[],d,0⟩ d).slots.length <= 1000:=by
           have:=HDL.out
           rw [setT_ne _ _ HNE.out]
           omega
          have HPT:=hid (dput_calls LP.out hB3 HDD.out hU0 (i,s))
          clear hU0 LP
          refine HPT.out.mono ?_
          rintro e w6 ⟨rfl,L6⟩
          have L6:Lv S0 w0 (Star (docX q m UU) (Star (docX r m T) B)) w6:=by rw [HUU.out];exact L6
          have hfi:=dfits_calls L6 hB3 HDOC.out HM.out
          rw [HFIT.out] at hfi
          have HFI:=hid hfi
          clear hfi
          clear L6 HPT
          go_wp2_with fail
          refine HFI.out.mono ?_
          rintro e w7 ⟨rfl,L7⟩
          have HL7:=hid L7
          clear L7 HFI
          go_wp2_with fail
          go_ret2
          exact ⟨rfl,HL7.out.drop⟩
         ·have t0:(kd != 0) = true:=by simpa using hk
          have HB2:Hid (∀ j,j < i + 1 -> (T j).kind ≠ 0):=hid fun j hj=>by
           by_cases e:j < i
           ·exact HB0.out j e
           ·obtain rfl:j = i:=by omega
            omega
          clear hk hkd
          go_wp2_with fail
          go_roundw
          case rel=>exact ⟨i + 1,hlt,by go_num,by first | trivial | rfl,HB2⟩
          case measure=>simp [intOf] <;> omega
        ·obtain rfl:i = 32:=by omega
         have hlt2:¬ (32:Int) < 32:=by omega
         exact absurd (HB0.out n HN32.out.1) (by have:=HN32.out.2;omega)
  ·obtain ⟨e1,e2⟩:=mk_last (m:=m) hkd hl hE
   rw [e1,e2]
   have t0:(E != 0) = true:=bne_iff_ne.2 hE
   have hk3:kind = 1 \/ kind = 2:=by omega
   clear e1 e2 hl hE hkd hk1
   rcases hk3 with rfl | rfl
   all_goals
    go_enter Tryz.func139,Tryz.ntmps139
    go_wp2_with fail
    refine HLS.out.mono ?_
    rintro e w1 ⟨rfl,L1⟩
    have HX2:=hid L1
    clear L1
    go_wp2_with fail
    go_ret2
    exact ⟨rfl,HX2.out⟩
end
section
variable {T:Tr} {m:Nat} {from_:Int} {old path s:ByteArray} {d n:Nat}
theorem DocOk.link (h:TInv T) (hn:n < 32) (hn0:(T n).kind ≠ 0) (hd:d < 32) (hk:(T d).kind = 2) (hs:namedT s = true) (hdn:d ≠ n):DocOk (linkU T n d s):=by
 have hz:=h.size d hd hk
 have hD:=h.docok
 have hsm:=h.small n hn
 have h1:DocOk (setT T n { T n with links:=(T n).links + 1 }):=DocOk.set hD (fun e=>absurd e hn0) (hD.ok n hn) (hD.up n hn) (hD.len n hn) (hD.data n hn) (hD.kind n hn) (show (T n).links + 1 <= 256 by omega)
 exact DocOk.put (y:=(n,s)) h1 hd (by rw [setT_ne _ _ hdn];omega) (by rw [setT_ne _ _ hdn];omega) ⟨hn,hs⟩
theorem lk_find {E:Int} (hf:findT T from_ old = (n,E)) (hE:E ≠ 0):linkT m T from_ old path = (E,T):=by unfold linkT;rw [hf];simp only;rw [if_pos hE]
theorem lk_dir (hf:findT T from_ old = (n,0)) (hk:(T n).kind = 2):linkT m T from_ old path = (10,T):=by unfold linkT;rw [hf];simp only;rw [if_neg (show ¬ (0:Int) ≠ 0 by decide),if_pos hk]
theorem lk_last {E:Int} (hf:findT T from_ old = (n,0)) (hk:(T n).kind ≠ 2) (hl:lastT T from_ path = (d,s,E)) (hE:E ≠ 0):linkT m T from_ old path = (E,T):=by
 unfold linkT;rw [hf];simp only;rw [if_neg (show ¬ (0:Int) ≠ 0 by decide),if_neg hk,hl];simp only;rw [if_pos hE]
theorem lk_there {k:Nat} (hf:findT T from_ old = (n,0)) (hk:(T n).kind ≠ 2) (hl:lastT T from_ path = (d,s,0)) (he:entryT (T d) s = some k):linkT m T from_ old path = (9,T):=by
 unfold linkT;rw [hf];simp only;rw [if_neg (show ¬ (0:Int) ≠ 0 by decide),if_neg hk,hl];simp only;rw [if_neg (show ¬ (0:Int) ≠ 0 by decide),if_pos (by rw [he];rfl)]
theorem lk_many (hf:findT T from_ old = (n,0)) (hk:(T n).kind ≠ 2) (hl:lastT T from_ path = (d,s,0)) (he:entryT (T d) s = none) (h255:(T n).links = 255):linkT m T from_ old path = (15,T):=by
 unfold linkT;rw [hf];simp only;rw [if_neg (show ¬ (0:Int) ≠ 0 by decide),if_neg hk,hl];simp only;rw [if_neg (show ¬ (0:Int) ≠ 0 by decide),if_neg (by rw [he];decide),if_pos h255]
theorem lk_no (hf:findT T from_ old = (n,0)) (hk:(T n).kind ≠ 2) (hl:lastT T from_ path = (d,s,0)) (he:entryT (T d) s = none) (h255:(T n).links ≠ 255) (hfit:fitsT m (linkU T n d s) = false):linkT m T from_ old path = (4,T):=by
 unfold linkT;rw [hf];simp only;rw [if_neg (show ¬ (0:Int) ≠ 0 by decide),if_neg hk,hl];simp only;rw [if_neg (show ¬ (0:Int) ≠ 0 by decide),if_neg (by rw [he];decide),if_neg h255,if_neg (by rw [hfit];decide)]
theorem lk_ok (hf:findT T from_ old = (n,0)) (hk:(T n).kind ≠ 2) (hl:lastT T from_ path = (d,s,0)) (he:entryT (T d) s = none) (h255:(T n).links ≠ 255) (hfit:fitsT m (linkU T n d s) = true):linkT m T from_ old path = (0,linkU T n d s):=by
 unfold linkT;rw [hf];simp only;rw [if_neg (show ¬ (0:Int) ≠ 0 by decide),if_neg hk,hl];simp only;rw [if_neg (show ¬ (0:Int) ≠ 0 by decide),if_neg (by rw [he];decide),if_neg h255,if_pos hfit]
end
section
variable {S0:Nat -> Prop} {w0 w:World} {r g c m:Nat} {sp:List Value} {T:Tr} {us:Nat -> Value} {B R:Asr}
theorem dlink_calls (hX:Lv S0 w0 (Star (docX r m T) B) w) (hB:Loc B) (hI:TInv T) (hm:m <= 512) (from_:Int) (old path:ByteArray) :
 Calls Tryz.prog 140 #[.pointer (some ⟨r,0,none⟩),.int .i64 from_,.string old,.string path] w fun e w'=>e = .returned (.int .i64 (linkT m T from_ old path).1) /\ Lv S0 w0 (Star (docX r m (linkT m T from_ old path).2) B) w':=by
 have HFD:=hid (dFind_calls hX hB hI from_ old)
 have HI:=hid hI
 have HBL:=hid hB
 have HM:=hid hm
 obtain ⟨n,hn⟩:∃ n,n = (findT T from_ old).1:=⟨_,rfl⟩
 obtain ⟨E,hE⟩:∃ E,E = (findT T from_ old).2:=⟨_,rfl⟩
 have hf:findT T from_ old = (n,E):=by rw [hn,hE]
 have HN0:Hid (E = 0 -> n < 32 /\ (T n).kind ≠ 0):=hid fun h=>by
  have:=findT_ok hI (from_:=from_) (path:=old) (by rw [<- hE];exact h)
  rw [hf] at this
  exact this
 rw [<- hn,<- hE] at HFD
 obtain ⟨d,hd⟩:∃ d,d = (lastT T from_ path).1:=⟨_,rfl⟩
 obtain ⟨s,hs⟩:∃ s,s = (lastT T from_ path).2.1:=⟨_,rfl⟩
 obtain ⟨E2,hE2⟩:∃ E2,E2 = (lastT T from_ path).2.2:=⟨_,rfl⟩
 have hl:lastT T from_ path = (d,s,E2):=by rw [hd,hs,hE2]
 have HOK:Hid (E2 = 0 -> d < 32 /\ (T d).kind = 2 /\ namedT s = true):=hid fun h=>by
  have:=lastT_ok hI (from_:=from_) (path:=path) (by rw [<- hE2];exact h)
  rw [hl] at this
  exact this
 clear hX hB hI hn hE hd hs hE2
 by_cases hE:E = 0
 ·subst hE
  have HN:=hid (HN0.out rfl)
  by_cases hk:(T n).kind = 2
  ·rw [lk_dir hf hk]
   have HK:=hid hk
   clear hf hl hk
   go_enter Tryz.func140,Tryz.ntmps140
   go_wp2_with fail
   refine HFD.out.mono ?_
   rintro e w1 ⟨rfl,L1⟩
   obtain ⟨g,c,sp,us,hL⟩:=docX_open L1
   have c1:=(doc_cells hL).2.1
   have d0:=((doc_cells hL).2.2 n HN.out.1).1
   have hn2:(n:Int) < 32:=by have:=HN.out.1;omega
   have HLS:=hid (dlast_calls L1 HBL.out HI.out from_ path)
   obtain ⟨kd,hkd⟩:∃ k:Int,k = (T n).kind:=⟨_,rfl⟩
   rw [<- hkd] at d0
   have t1:(kd == 2) = true:=by rw [beq_iff_eq,hkd,HK.out];rfl
   have HX2:=hid L1
   clear L1 hL hkd HLS
   go_wp2_with fail
   go_ret
   exact ⟨rfl,HX2.out⟩
  ·have HK:=hid hk
   have HL:=hid hl
   by_cases hE2:E2 = 0
   ·subst hE2
    obtain ⟨hd,hdk,hnm⟩:=HOK.out rfl
    have HDD:=hid hd
    have hdl:=HI.out.size d hd hdk
    have HDL:Hid ((T d).slots.length <= 147):=hid (by omega)
    have hdn:d ≠ n:=fun e=>by subst e;exact hk hdk
    have HNE:=hid hdn
    have HEN:Hid (∀ (W:World),Lv S0 w0 (Star (docX r m T) B) W -> Calls Tryz.prog 132 #[.pointer (some ⟨r,0,none⟩),.int .i64 d,.string s] W fun e w'=>e = .returned (.int .i64 (entryI (T d) s)) /\ W = w'):=hid fun W hW=>by
     obtain ⟨g,c,sp,us,hL⟩:=docX_open hW
     exact dentry_calls hL hd (by omega) s
    cases hen:entryT (T d) s with
    | some k =>
     rw [lk_there hf hk hl hen]
     have hei:entryI (T d) s = (k:Int):=by unfold entryI;rw [hen]
     rw [hei] at HEN
     have g0:(0:Int) <= (k:Int):=by omega
     clear hf hl hk hd hdk hnm hdl hdn hen hei
     go_enter Tryz.func140,Tryz.ntmps140
     go_wp2_with fail
     refine HFD.out.mono ?_
     rintro e w1 ⟨rfl,L1⟩
     obtain ⟨g,c,sp,us,hL⟩:=docX_open L1
     have c1:=(doc_cells hL).2.1
     have d0:=((doc_cells hL).2.2 n HN.out.1).1
     have hn2:(n:Int) < 32:=by have:=HN.out.1;omega
     have HLS:=hid (dlast_calls L1 HBL.out HI.out from_ path)
     obtain ⟨kd,hkd⟩:∃ k:Int,k = (T n).kind:=⟨_,rfl⟩
     rw [<- hkd] at d0
     have t1:(kd == 2) = false:=by rw [beq_eq_false_iff_ne];intro h;exact HK.out (by omega)
     have hls:=HLS.out
     rw [HL.out] at hls
     have HLS:=hid hls
     clear L1 hL hkd hls
     go_wp2_with fail
     refine HLS.out.mono ?_
     rintro e w2 ⟨rfl,L2⟩
     have HE2:=hid (HEN.out w2 L2)
     have HX2:=hid L2
     have HCP:=hid (dcopy_calls L2 HBL.out HI.out.docok)
     obtain ⟨g2,c2,sp2,us2,hL2⟩:=docX_open L2
     have c21:=(doc_cells hL2).2.1
     have d21:=((doc_cells hL2).2.2 n HN.out.1).2.1
     obtain ⟨lk,hlk⟩:∃ k:Int,k = (T n).links:=⟨_,rfl⟩
     rw [<- hlk] at d21
     clear L2 hL2 c1 d0
     go_wp2_with fail
     refine HE2.out.mono ?_
     rintro e w3 ⟨rfl,rfl⟩
     go_wp2_with fail
     go_ret
     exact ⟨rfl,HX2.out⟩
    | none =>
     have hei:entryI (T d) s = -1:=by unfold entryI;rw [hen]
     rw [hei] at HEN
     by_cases h255:(T n).links = 255
     ·rw [lk_many hf hk hl hen h255]
      have HLK:=hid h255
      clear hf hl hk hd hdk hnm hdl hdn hen hei h255
      go_enter Tryz.func140,Tryz.ntmps140
      go_wp2_with fail
      refine HFD.out.mono ?_
      rintro e w1 ⟨rfl,L1⟩
      obtain ⟨g,c,sp,us,hL⟩:=docX_open L1
      have c1:=(doc_cells hL).2.1
      have d0:=((doc_cells hL).2.2 n HN.out.1).1
      have hn2:(n:Int) < 32:=by have:=HN.out.1;omega
      have HLS:=hid (dlast_calls L1 HBL.out HI.out from_ path)
      obtain ⟨kd,hkd⟩:∃ k:Int,k = (T n).kind:=⟨_,rfl⟩
      rw [<- hkd] at d0
      have t1:(kd == 2) = false:=by rw [beq_eq_false_iff_ne];intro h;exact HK.out (by omega)
      have hls:=HLS.out
      rw [HL.out] at hls
      have HLS:=hid hls
      clear L1 hL hkd hls
      go_wp2_with fail
      refine HLS.out.mono ?_
      rintro e w2 ⟨rfl,L2⟩
      have HE2:=hid (HEN.out w2 L2)
      have HX2:=hid L2
      have HCP:=hid (dcopy_calls L2 HBL.out HI.out.docok)
      obtain ⟨g2,c2,sp2,us2,hL2⟩:=docX_open L2
      have c21:=(doc_cells hL2).2.1
      have d21:=((doc_cells hL2).2.2 n HN.out.1).2.1
      obtain ⟨lk,hlk⟩:∃ k:Int,k = (T n).links:=⟨_,rfl⟩
      rw [<- hlk] at d21
      clear L2 hL2 c1 d0
      go_wp2_with fail
      refine HE2.out.mono ?_
      rintro e w3 ⟨rfl,rfl⟩
      have tl:(lk == 255) = true:=by rw [beq_iff_eq,hlk,HLK.out];rfl
      clear hlk
      go_wp2_with fail
      go_ret
      exact ⟨rfl,HX2.out⟩
     ·have HLK:=hid h255
      have HSM:Hid ((T n).links <= 255):=hid (HI.out.small n HN.out.1)
      obtain ⟨UU,hUU⟩:∃ UU,UU = linkU T n d s:=⟨_,rfl⟩
      have hdoc:=DocOk.link HI.out HN.out.1 HN.out.2 hd hdk hnm hdn
      rw [<- hUU] at hdoc
      have HDOC:=hid hdoc
      have HUU:Hid (UU = putT (setT T n { T n with links:=(T n).links + 1 }) d (n,s)):=hid hUU
      cases hfit:fitsT m UU with
      | true =>
       rw [lk_ok hf hk hl hen h255 (by rw [<- hUU];exact hfit),<- hUU]
       have HFIT:=hid hfit
       clear hf hl hk hd hdk hnm hdl hdn hen hei h255 hUU hdoc hfit
       go_enter Tryz.func140,Tryz.ntmps140
       go_wp2_with fail
       refine HFD.out.mono ?_
       rintro e w1 ⟨rfl,L1⟩
       obtain ⟨g,c,sp,us,hL⟩:=docX_open L1
       have c1:=(doc_cells hL).2.1
       have d0:=((doc_cells hL).2.2 n HN.out.1).1
       have hn2:(n:Int) < 32:=by have:=HN.out.1;omega
       have HLS:=hid (dlast_calls L1 HBL.out HI.out from_ path)
       obtain ⟨kd,hkd⟩:∃ k:Int,k = (T n).kind:=⟨_,rfl⟩
       rw [<- hkd] at d0
       have t1:(kd == 2) = false:=by rw [beq_eq_false_iff_ne];intro h;exact HK.out (by omega)
       have hls:=HLS.out
       rw [HL.out] at hls
       have HLS:=hid hls
       clear L1 hL hkd hls
       go_wp2_with fail
       refine HLS.out.mono ?_
       rintro e w2 ⟨rfl,L2⟩
       have HE2:=hid (HEN.out w2 L2)
       have HX2:=hid L2
       have HCP:=hid (dcopy_calls L2 HBL.out HI.out.docok)
       obtain ⟨g2,c2,sp2,us2,hL2⟩:=docX_open L2
       have c21:=(doc_cells hL2).2.1
       have d21:=((doc_cells hL2).2.2 n HN.out.1).2.1
       obtain ⟨lk,hlk⟩:∃ k:Int,k = (T n).links:=⟨_,rfl⟩
       rw [<- hlk] at d21
       clear L2 hL2 c1 d0
       go_wp2_with fail
       refine HE2.out.mono ?_
       rintro e w3 ⟨rfl,rfl⟩
       have tl:(lk == 255) = false:=by rw [beq_eq_false_iff_ne];intro h;exact HLK.out (by omega)
       have wl:IntKind.i64.wrap (lk + 1) = lk + 1:=by have:=HSM.out;rw [IntKind.wrap_i64] <;> omega
       have HLKV:=hid hlk
       clear hlk
       go_wp2_with fail
       refine HCP.out.mono ?_
       rintro e w4 ⟨q,rfl,L3⟩
       have hB3:Loc (Star (docX r m T) B):=loc_star (loc_docX _ _ _) HBL.out
       obtain ⟨gq,cq,spq,usq,hLq⟩:=docX_open L3
       have v1:=(doc_cells hLq).2.1
       have e1:=((doc_cells hLq).2.2 n HN.out.1).2.1
       rw [<- HLKV.out] at e1
       have f1:=(doc_free hLq (n * 6 + 1)).1
       have L5:=doc_turn hLq hB3 HN.out.1 (j:=1) (v:=.int .i64 ((T n).links + 1:Nat)) (x:={ T n with links:=(T n).links + 1 }) (by omega) rfl rfl
       rw [show (((T n).links + 1:Nat):Int) = lk + 1 by rw [HLKV.out];omega] at L5
       have LP:Hid (Lv S0 w0 (Star (docX q m (setT T n { T n with links:=(T n).links + 1 })) (Star (docX r m T) B)) (w4.setCell ⟨gq,n * 6 + 1,none⟩ (.int .i64 (lk + 1)))):=hid (docX_shut L5)
       have hU0:(setT T n { T n with links:=(T n).links + 1 } d).slots.length <= 1000:=by
        have:=HDL.out
        rw [setT_ne _ _ HNE.out]
        omega
       have HPT:=hid (dput_calls LP.out hB3 HDD.out hU0 (n,s))
       clear hU0 LP L5 hLq L3
       go_wp2_with fail
       refine HPT.out.mono ?_
       rintro e w6 ⟨rfl,L6⟩
       have L6:Lv S0 w0 (Star (docX q m UU) (Star (docX r m T) B)) w6:=by rw [HUU.out];exact L6
       have hfi:=dfits_calls L6 hB3 HDOC.out HM.out
       rw [HFIT.out] at hfi
       have HFI:=hid hfi
       clear L6 HPT hfi
       go_wp2_with fail
       refine HFI.out.mono ?_
       rintro e w7 ⟨rfl,L7⟩
       have HL7:=hid L7
       clear L7 HFI
       obtain ⟨g8,c8,sp8,us8,h8⟩:=docX_open HL7.out
       obtain ⟨g9,c9,sp9,us9,h9⟩:=docX_open (h8.map fun _ h=>star_flip h)
       have u1:=(doc_cells h8).2.1
       have r1:=(doc_cells h9).2.1
       have rf:=(doc_free h9 1).2
       have HT9:=hid (docX_shut (doc_take (h9.map fun _ h=>star_flip h) HBL.out))
       clear h8 h9 HL7
       go_wp2_with fail
       go_ret
       exact ⟨rfl,HT9.out⟩
      | false =>
       rw [lk_no hf hk hl hen h255 (by rw [<- hUU];exact hfit)]
       have HFIT:=hid hfit
       clear hf hl hk hd hdk hnm hdl hdn hen hei h255 hUU hdoc hfit
       go_enter Tryz.func140,Tryz.ntmps140
       go_wp2_with fail
       refine HFD.out.mono ?_
       rintro e w1 ⟨rfl,L1⟩
       obtain ⟨g,c,sp,us,hL⟩:=docX_open L1
       have c1:=(doc_cells hL).2.1
       have d0:=((doc_cells hL).2.2 n HN.out.1).1
       have hn2:(n:Int) < 32:=by have:=HN.out.1;omega
       have HLS:=hid (dlast_calls L1 HBL.out HI.out from_ path)
       obtain ⟨kd,hkd⟩:∃ k:Int,k = (T n).kind:=⟨_,rfl⟩
       rw [<- hkd] at d0
       have t1:(kd == 2) = false:=by rw [beq_eq_false_iff_ne];intro h;exact HK.out (by omega)
       have hls:=HLS.out
       rw [HL.out] at hls
       have HLS:=hid hls
       clear L1 hL hkd hls
       go_wp2_with fail
       refine HLS.out.mono ?_
       rintro e w2 ⟨rfl,L2⟩
       have HE2:=hid (HEN.out w2 L2)
       have HX2:=hid L2
       have HCP:=hid (dcopy_calls L2 HBL.out HI.out.docok)
       obtain ⟨g2,c2,sp2,us2,hL2⟩:=docX_open L2
       have c21:=(doc_cells hL2).2.1
       have d21:=((doc_cells hL2).2.2 n HN.out.1).2.1
       obtain ⟨lk,hlk⟩:∃ k:Int,k = (T n).links:=⟨_,rfl⟩
       rw [<- hlk] at d21
       clear L2 hL2 c1 d0
       go_wp2_with fail
       refine HE2.out.mono ?_
       rintro e w3 ⟨rfl,rfl⟩
       have tl:(lk == 255) = false:=by rw [beq_eq_false_iff_ne];intro h;exact HLK.out (by omega)
       have wl:IntKind.i64.wrap (lk + 1) = lk + 1:=by have:=HSM.out;rw [IntKind.wrap_i64] <;> omega
       have HLKV:=hid hlk
       clear hlk
       go_wp2_with fail
       refine HCP.out.mono ?_
       rintro e w4 ⟨q,rfl,L3⟩
       have hB3:Loc (Star (docX r m T) B):=loc_star (loc_docX _ _ _) HBL.out
       obtain ⟨gq,cq,spq,usq,hLq⟩:=docX_open L3
       have v1:=(doc_cells hLq).2.1
       have e1:=((doc_cells hLq).2.2 n HN.out.1).2.1
       rw [<- HLKV.out] at e1
       have f1:=(doc_free hLq (n * 6 + 1)).1
       have L5:=doc_turn hLq hB3 HN.out.1 (j:=1) (v:=.int .i64 ((T n).links + 1:Nat)) (x:={ T n with links:=(T n).links + 1 }) (by omega) rfl rfl
       rw [show (((T n).links + 1:Nat):Int) = lk + 1 by rw [HLKV.out];omega] at L5
       have LP:Hid (Lv S0 w0 (Star (docX q m (setT T n { T n with links:=(T n).links + 1 })) (Star (docX r m T) B)) (w4.setCell ⟨gq,n * 6 + 1,none⟩ (.int .i64 (lk + 1)))):=hid (docX_shut L5)
       have hU0:(setT T n { T n with links:=(T n).links + 1 } d).slots.length <= 1000:=by
        have:=HDL.out
        rw [setT_ne _ _ HNE.out]
        omega
       have HPT:=hid (dput_calls LP.out hB3 HDD.out hU0 (n,s))
       clear hU0 LP L5 hLq L3
       go_wp2_with fail
       refine HPT.out.mono ?_
       rintro e w6 ⟨rfl,L6⟩
       have L6:Lv S0 w0 (Star (docX q m UU) (Star (docX r m T) B)) w6:=by rw [HUU.out];exact L6
       have hfi:=dfits_calls L6 hB3 HDOC.out HM.out
       rw [HFIT.out] at hfi
       have HFI:=hid hfi
       clear L6 HPT hfi
       go_wp2_with fail
       refine HFI.out.mono ?_
       rintro e w7 ⟨rfl,L7⟩
       have HL7:=hid L7
       clear L7 HFI
       go_wp2_with fail
       go_ret
       exact ⟨rfl,HL7.out.drop⟩
   ·rw [lk_last hf hk hl hE2]
    have t2:(E2 != 0) = true:=bne_iff_ne.2 hE2
    clear hf hl hk hE2
    go_enter Tryz.func140,Tryz.ntmps140
    go_wp2_with fail
    refine HFD.out.mono ?_
    rintro e w1 ⟨rfl,L1⟩
    obtain ⟨g,c,sp,us,hL⟩:=docX_open L1
    have c1:=(doc_cells hL).2.1
    have d0:=((doc_cells hL).2.2 n HN.out.1).1
    have hn2:(n:Int) < 32:=by have:=HN.out.1;omega
    have HLS:=hid (dlast_calls L1 HBL.out HI.out from_ path)
    obtain ⟨kd,hkd⟩:∃ k:Int,k = (T n).kind:=⟨_,rfl⟩
    rw [<- hkd] at d0
    have t1:(kd == 2) = false:=by rw [beq_eq_false_iff_ne];intro h;exact HK.out (by omega)
    have hls:=HLS.out
    rw [HL.out] at hls
    have HLS:=hid hls
    clear L1 hL hkd hls
    go_wp2_with fail
    refine HLS.out.mono ?_
    rintro e w2 ⟨rfl,L2⟩
    have HX2:=hid L2
    clear L2
    go_wp2_with fail
    go_ret
    exact ⟨rfl,HX2.out⟩
 ·rw [lk_find hf hE]
  have t0:(E != 0) = true:=bne_iff_ne.2 hE
  clear hf hl hE
  go_enter Tryz.func140,Tryz.ntmps140
  go_wp2_with fail
  refine HFD.out.mono ?_
  rintro e w1 ⟨rfl,L1⟩
  have HX2:=hid L1
  clear L1
  go_wp2_with fail
  go_ret
  exact ⟨rfl,HX2.out⟩
end
section
variable {S0:Nat -> Prop} {w0 w:World} {r g c m:Nat} {sp:List Value} {T:Tr} {us:Nat -> Value} {B R:Asr}
theorem tfind_cases (T:Tr) (n:Int):tfindE T n ≠ 0 \/ (tfindE T n = 0 /\ ∃ k:Nat,n = k /\ k < 32 /\ (T k).kind ≠ 0):=by
 by_cases h:tfindE T n = 0
 ·right
  obtain ⟨a,b,c⟩:=tfind_iff.1 h
  exact ⟨h,n.toNat,by omega,by omega,c⟩
 ·exact .inl h
theorem dsweep_calls (hX:Lv S0 w0 (Star (docX r m T) B) w) (hB:Loc B) {k:Nat} (hk:k < 32) :
 Calls Tryz.prog 73 #[.pointer (some ⟨r,0,none⟩),.int .i64 k] w fun e w'=>e = .returned (.tuple #[]) /\ Lv S0 w0 (Star (docX r m (sweepT T k)) B) w':=by
 obtain ⟨g,c,sp,us,hL⟩:=docX_open hX
 obtain ⟨c0,c1,cn⟩:=doc_cells hL
 obtain ⟨d0,d1,d2,d3,d4,d5⟩:=cn k hk
 have fg:=doc_free hL
 have hk2:(k:Int) < 32:=by omega
 have HL:=hid hL
 have HE:=hid (doc_node hL hB hk TN.free rfl)
 obtain ⟨x1,hx1⟩:∃ x:Int,x = ((T k).links:Int):=⟨_,rfl⟩
 obtain ⟨x5,hx5⟩:∃ x:Int,x = ((T k).held:Int):=⟨_,rfl⟩
 rw [<- hx1] at d1
 rw [<- hx5] at d5
 by_cases h1:x1 = 0
 ·have t1:(x1 == 0) = true:=by simpa using h1
  by_cases h5:x5 = 0
  ·have t5:(x5 == 0) = true:=by simpa using h5
   have hs:sweepT T k = setT T k TN.free:=if_pos ⟨by omega,by omega⟩
   rw [hs]
   have f0:=(fg (k * 6)).1
   have f1:=(fg (k * 6 + 1)).1
   have f2:=(fg (k * 6 + 2)).1
   have f3:=(fg (k * 6 + 3)).1
   have f4:=(fg (k * 6 + 4)).1
   have f5:=(fg (k * 6 + 5)).1
   generalize (T k).kind = kd at *
   generalize (T k).up = up at *
   generalize us k = uk at *
   generalize (⟨(T k).data.toArray⟩:ByteArray) = db at *
   clear hL hX hB fg cn hs hx1 hx5 h1 h5 hk c0
   go_enter Tryz.func73,Tryz.ntmps73
   go_wp2_with fail
   exact ⟨rfl,.tuple #[],results_none rfl _ _ _,rfl,docX_shut HE.out⟩
  ·have t5:(x5 == 0) = false:=by simpa using h5
   have hs:sweepT T k = T:=if_neg (by rintro ⟨_,h⟩;omega)
   rw [hs]
   clear hL hX hB fg cn hs hx1 hx5 h1 h5 hk c0 d0 d2 d3 d4 HE
   go_enter Tryz.func73,Tryz.ntmps73
   go_wp2_with fail
   exact ⟨rfl,.tuple #[],results_none rfl _ _ _,rfl,docX_shut HL.out⟩
 ·have t1:(x1 == 0) = false:=by simpa using h1
  have hs:sweepT T k = T:=if_neg (by rintro ⟨h,_⟩;omega)
  rw [hs]
  clear hL hX hB fg cn hs hx1 hx5 h1 hk c0 d0 d2 d3 d4 HE
  go_enter Tryz.func73,Tryz.ntmps73
  go_wp2_with fail
  exact ⟨rfl,.tuple #[],results_none rfl _ _ _,rfl,docX_shut HL.out⟩
theorem dhold_calls (hX:Lv S0 w0 (Star (docX r m T) B) w) (hB:Loc B) (hH:∀ k,k < 32 -> (T k).held < 4611686018427387904) (n:Int) :
 Calls Tryz.prog 149 #[.pointer (some ⟨r,0,none⟩),.int .i64 n] w fun e w'=>e = .returned (.int .i64 (holdT T n).1) /\ Lv S0 w0 (Star (docX r m (holdT T n).2) B) w':=by
 obtain ⟨g,c,sp,us,hL⟩:=docX_open hX
 have HF:=hid (dfind_calls hL n)
 have HL:=hid hL
 rcases tfind_cases T n with h0 | ⟨h0,k,rfl,hk,hz⟩
 ·have hs:holdT T n = (tfindE T n,T):=if_pos h0
  rw [hs]
  have t0:(tfindE T n == 0) = false:=by simpa using h0
  generalize tfindE T n = E at *
  clear hL hX hB hH h0 hs
  go_enter Tryz.func149,Tryz.ntmps149
  go_wp2_with fail
  refine HF.out.mono ?_
  rintro e w2 ⟨rfl,rfl⟩
  go_wp2_with fail
  go_ret
  exact ⟨rfl,docX_shut HL.out⟩
 ·have hs:holdT T k = (0,setT T k { T k with held:=(T k).held + 1 }):=by unfold holdT;rw [if_neg (by rw [h0];decide),Int.toNat_natCast]
  rw [hs]
  rw [h0] at HF
  obtain ⟨c0,c1,cn⟩:=doc_cells hL
  obtain ⟨d0,d1,d2,d3,d4,d5⟩:=cn k hk
  have f5:=(doc_free hL (k * 6 + 5)).1
  have hk2:(k:Int) < 32:=by omega
  have hh:=hH k hk
  have HE:=hid (doc_turn hL hB hk (j:=5) (v:=.int .i64 ((T k).held + 1:Nat)) (x:={ T k with held:=(T k).held + 1 }) (by omega) rfl rfl)
  obtain ⟨x,hx⟩:∃ x:Int,x = ((T k).held:Int):=⟨_,rfl⟩
  obtain ⟨x2,hx2⟩:∃ x:Int,x = (((T k).held + 1:Nat):Int):=⟨_,rfl⟩
  rw [<- hx] at d5
  rw [<- hx2] at HE
  have wx:IntKind.i64.wrap (x + 1) = x2:=by rw [IntKind.wrap_i64] <;> omega
  clear hL hX hB hH h0 hs cn hh hx hx2 hz hk c0 d0 d1 d2 d3 d4
  go_enter Tryz.func149,Tryz.ntmps149
  go_wp2_with fail
  refine HF.out.mono ?_
  rintro e w2 ⟨rfl,rfl⟩
  go_wp2_with fail
  go_ret
  exact ⟨rfl,docX_shut HE.out⟩
theorem ddrop_calls (hX:Lv S0 w0 (Star (docX r m T) B) w) (hB:Loc B) (hH:∀ k,k < 32 -> (T k).held < 4611686018427387904) (n:Int) :
 Calls Tryz.prog 150 #[.pointer (some ⟨r,0,none⟩),.int .i64 n] w fun e w'=>e = .returned (.int .i64 (dropT T n).1) /\ Lv S0 w0 (Star (docX r m (dropT T n).2) B) w':=by
 obtain ⟨g,c,sp,us,hL⟩:=docX_open hX
 have HF:=hid (dfind_calls hL n)
 have HL:=hid hL
 rcases tfind_cases T n with h0 | ⟨h0,k,rfl,hk,hz⟩
 ·have hs:dropT T n = (tfindE T n,T):=if_pos h0
  rw [hs]
  have t0:(tfindE T n != 0) = true:=by simpa using h0
  generalize tfindE T n = E at *
  clear hL hX hB hH h0 hs
  go_enter Tryz.func150,Tryz.ntmps150
  go_wp2_with fail
  refine HF.out.mono ?_
  rintro e w2 ⟨rfl,rfl⟩
  go_wp2_with fail
  go_ret
  exact ⟨rfl,docX_shut HL.out⟩
 ·rw [h0] at HF
  obtain ⟨c0,c1,cn⟩:=doc_cells hL
  obtain ⟨d0,d1,d2,d3,d4,d5⟩:=cn k hk
  have f5:=(doc_free hL (k * 6 + 5)).1
  have hk2:(k:Int) < 32:=by omega
  have hh:=hH k hk
  by_cases hh0:(T k).held = 0
  ·have hs:dropT T k = (1,T):=by unfold dropT;rw [if_neg (by rw [h0];decide),Int.toNat_natCast,if_pos hh0]
   rw [hs]
   obtain ⟨x,hx⟩:∃ x:Int,x = ((T k).held:Int):=⟨_,rfl⟩
   rw [<- hx] at d5
   have t5:(x == 0) = true:=by rw [beq_iff_eq];omega
   clear hL hX hB hH h0 hs cn hh hx hh0 hz hk c0 d0 d1 d2 d3 d4
   go_enter Tryz.func150,Tryz.ntmps150
   go_wp2_with fail
   refine HF.out.mono ?_
   rintro e w2 ⟨rfl,rfl⟩
   go_wp2_with fail
   go_ret
   exact ⟨rfl,docX_shut HL.out⟩
  ·have hs:dropT T k = (0,sweepT (setT T k { T k with held:=(T k).held - 1 }) k):=by unfold dropT;rw [if_neg (by rw [h0];decide),Int.toNat_natCast,if_neg hh0]
   rw [hs]
   have HE:=hid (docX_shut (doc_turn hL hB hk (j:=5) (v:=.int .i64 ((T k).held - 1:Nat)) (x:={ T k with held:=(T k).held - 1 }) (by omega) rfl rfl))
   have HSW:=hid (fun W (h:Lv S0 w0 (Star (docX r m (setT T k { T k with held:=(T k).held - 1 })) B) W)=>dsweep_calls h hB hk)
   obtain ⟨x,hx⟩:∃ x:Int,x = ((T k).held:Int):=⟨_,rfl⟩
   obtain ⟨x2,hx2⟩:∃ x:Int,x = (((T k).held - 1:Nat):Int):=⟨_,rfl⟩
   rw [<- hx] at d5
   rw [<- hx2] at HE
   have t5:(x == 0) = false:=by rw [beq_eq_false_iff_ne];omega
   have wx:IntKind.i64.wrap (x - 1) = x2:=by rw [IntKind.wrap_i64] <;> omega
   have HS2:=hid (HSW.out _ HE.out)
   clear hL hX hB hH h0 hs cn hh hx hx2 hh0 hz hk c0 d0 d1 d2 d3 d4 HE HSW
   go_enter Tryz.func150,Tryz.ntmps150
   go_wp2_with fail
   refine HF.out.mono ?_
   rintro e w2 ⟨rfl,rfl⟩
   go_wp2_with fail
   refine HS2.out.mono ?_
   rintro e w3 ⟨rfl,L3⟩
   have HL3:=hid L3
   clear L3 HS2
   go_wp2_with fail
   go_ret
   exact ⟨rfl,HL3.out⟩
theorem dcut_calls (hX:Lv S0 w0 (Star (docX r m T) B) w) (hB:Loc B) (n:Int) :
 Calls Tryz.prog 145 #[.pointer (some ⟨r,0,none⟩),.int .i64 n] w fun e w'=>e = .returned (.int .i64 (cutT T n).1) /\ Lv S0 w0 (Star (docX r m (cutT T n).2) B) w':=by
 obtain ⟨g,c,sp,us,hL⟩:=docX_open hX
 have HF:=hid (dfind_calls hL n)
 have HL:=hid hL
 rcases tfind_cases T n with h0 | ⟨h0,k,rfl,hk,hz⟩
 ·have hfe:fileE T n = tfindE T n:=if_pos h0
  have hs:cutT T n = (tfindE T n,T):=by unfold cutT;rw [hfe,if_pos h0]
  rw [hs]
  have t0:(tfindE T n != 0) = true:=by simpa using h0
  generalize tfindE T n = E at *
  clear hL hX hB h0 hs hfe
  go_enter Tryz.func145,Tryz.ntmps145
  go_wp2_with fail
  refine HF.out.mono ?_
  rintro e w2 ⟨rfl,rfl⟩
  go_wp2_with fail
  go_ret
  exact ⟨rfl,docX_shut HL.out⟩
 ·rw [h0] at HF
  obtain ⟨c0,c1,cn⟩:=doc_cells hL
  obtain ⟨d0,d1,d2,d3,d4,d5⟩:=cn k hk
  have f2:=(doc_free hL (k * 6 + 2)).1
  have hk2:(k:Int) < 32:=by omega
  have hfe:fileE T k = if (T k).kind = 2 then 10 else 0:=by unfold fileE;rw [if_neg (by rw [h0];decide),Int.toNat_natCast]
  obtain ⟨x,hx⟩:∃ x:Int,x = ((T k).kind:Int):=⟨_,rfl⟩
  rw [<- hx] at d0
  by_cases h2:(T k).kind = 2
  ·have hs:cutT T k = (10,T):=by unfold cutT;rw [hfe,if_pos h2,if_pos (by decide)]
   rw [hs]
   have t0:(x == 2) = true:=by rw [beq_iff_eq];omega
   clear hL hX hB h0 hs cn hx h2 hz hk c0 d1 d2 d3 d4 d5 hfe
   go_enter Tryz.func145,Tryz.ntmps145
   go_wp2_with fail
   refine HF.out.mono ?_
   rintro e w2 ⟨rfl,rfl⟩
   go_wp2_with fail
   go_ret
   exact ⟨rfl,docX_shut HL.out⟩
  ·have hs:cutT T k = (0,setT T k { T k with data:=[] }):=by unfold cutT;rw [hfe,if_neg h2,if_neg (by decide),Int.toNat_natCast]
   rw [hs]
   have t0:(x == 2) = false:=by rw [beq_eq_false_iff_ne];omega
   have HE:=hid (docX_shut (doc_turn hL hB hk (j:=2) (v:=.string ⟨#[]⟩) (x:={ T k with data:=[] }) (by omega) rfl rfl))
   generalize (⟨(T k).data.toArray⟩:ByteArray) = db at *
   clear hL hX hB h0 hs cn hx h2 hz hk c0 d1 d3 d4 d5 hfe
   go_enter Tryz.func145,Tryz.ntmps145
   go_wp2_with fail
   refine HF.out.mono ?_
   rintro e w2 ⟨rfl,rfl⟩
   go_wp2_with fail
   go_ret
   exact ⟨rfl,HE.out⟩
end
section
variable {T:Tr} {m:Nat} {from_:Int} {path s:ByteArray} {d n k:Nat}
theorem not_empty {x:TN} {i:Nat} {y:Nat × ByteArray} (h:x.slots[i]? = some (some y)):emptyT x = false:=by
 unfold emptyT
 rw [List.all_eq_false]
 exact ⟨some y,List.mem_of_getElem? h,fun e=>by cases e⟩
theorem is_empty {x:TN} (h:∀ j,j < x.slots.length -> ∀ o,x.slots[j]? = some o -> o = none):emptyT x = true:=by
 unfold emptyT
 rw [List.all_eq_true]
 intro o ho
 obtain ⟨j,hj,rfl⟩:=List.mem_iff_getElem.1 ho
 rw [h j hj _ (List.getElem?_eq_getElem hj)]
 rfl
theorem un_last {E:Int} (hl:lastT T from_ path = (d,s,E)) (hE:E ≠ 0):unlinkT T from_ path = (E,T):=by unfold unlinkT;rw [hl];simp only;rw [if_pos hE]
theorem un_none (hl:lastT T from_ path = (d,s,0)) (he:entryT (T d) s = none):unlinkT T from_ path = (5,T):=by
 unfold unlinkT;rw [hl];simp only;rw [if_neg (show ¬ (0:Int) ≠ 0 by decide),he]
theorem un_busy (hl:lastT T from_ path = (d,s,0)) (he:entryT (T d) s = some k) (hn:inoT (T d) k = n) (hb:(T n).kind = 2 /\ (emptyT (T n) = false \/ 0 < (T n).held)):unlinkT T from_ path = (12,T):=by
 unfold unlinkT;rw [hl];simp only;rw [if_neg (show ¬ (0:Int) ≠ 0 by decide),he];simp only;rw [hn,if_pos hb]
theorem un_ok (hl:lastT T from_ path = (d,s,0)) (he:entryT (T d) s = some k) (hn:inoT (T d) k = n) (hb:¬ ((T n).kind = 2 /\ (emptyT (T n) = false \/ 0 < (T n).held))):unlinkT T from_ path = (0,unlinkU T d k n):=by
 unfold unlinkT;rw [hl];simp only;rw [if_neg (show ¬ (0:Int) ≠ 0 by decide),he];simp only;rw [hn,if_neg hb]
end
section
variable {S0:Nat -> Prop} {w0 w:World} {r g c m:Nat} {sp:List Value} {T:Tr} {us:Nat -> Value} {B R:Asr}
theorem dunlink_calls (hX:Lv S0 w0 (Star (docX r m T) B) w) (hB:Loc B) (hI:TInv T) (from_:Int) (path:ByteArray) :
 Calls Tryz.prog 141 #[.pointer (some ⟨r,0,none⟩),.int .i64 from_,.string path] w fun e w'=>e = .returned (.int .i64 (unlinkT T from_ path).1) /\ Lv S0 w0 (Star (docX r m (unlinkT T from_ path).2) B) w':=by
 have HLS:=hid (dlast_calls hX hB hI from_ path)
 have HI:=hid hI
 have HBL:=hid hB
 obtain ⟨d,hd⟩:∃ d,d = (lastT T from_ path).1:=⟨_,rfl⟩
 obtain ⟨s,hs⟩:∃ s,s = (lastT T from_ path).2.1:=⟨_,rfl⟩
 obtain ⟨E,hE⟩:∃ E,E = (lastT T from_ path).2.2:=⟨_,rfl⟩
 have hl:lastT T from_ path = (d,s,E):=by rw [hd,hs,hE]
 rw [<- hd,<- hs,<- hE] at HLS
 have HOK:Hid (E = 0 -> d < 32 /\ (T d).kind = 2 /\ namedT s = true):=hid fun h=>by
  have:=lastT_ok hI (from_:=from_) (path:=path) (by rw [<- hE];exact h)
  rw [hl] at this
  exact this
 clear hX hB hI hd hs hE
 by_cases hE:E = 0
 ·subst hE
  obtain ⟨hd,hdk,hnm⟩:=HOK.out rfl
  have HD:=hid hd
  have hdl:=HI.out.size d hd hdk
  have HEN:Hid (∀ (W:World),Lv S0 w0 (Star (docX r m T) B) W -> Calls Tryz.prog 132 #[.pointer (some ⟨r,0,none⟩),.int .i64 d,.string s] W fun e w'=>e = .returned (.int .i64 (entryI (T d) s)) /\ W = w'):=hid fun W hW=>by
   obtain ⟨g,c,sp,us,hL⟩:=docX_open hW
   exact dentry_calls hL hd (by omega) s
  cases hen:entryT (T d) s with
  | none =>
   rw [un_none hl hen]
   have hei:entryI (T d) s = -1:=by unfold entryI;rw [hen]
   rw [hei] at HEN
   clear hl hd hdk hnm hdl hen hei
   go_enter Tryz.func141,Tryz.ntmps141
   go_wp2_with fail
   refine HLS.out.mono ?_
   rintro e w1 ⟨rfl,L1⟩
   have HE2:=hid (HEN.out w1 L1)
   have HX2:=hid L1
   clear L1
   go_wp2_with fail
   refine HE2.out.mono ?_
   rintro e w2 ⟨rfl,rfl⟩
   go_wp2_with fail
   go_ret
   exact ⟨rfl,HX2.out⟩
  | some k =>
   obtain ⟨hkl,hsk⟩:=entry_some hen
   obtain ⟨n,hn⟩:∃ n,n = inoT (T d) k:=⟨_,rfl⟩
   rw [<- hn] at hsk
   obtain ⟨hn32,hnk,_,_⟩:=HI.out.slot d hd hdk k n s hsk
   have HPOS:=hid (HI.out.named_pos hd hdk hsk)
   have HSM:=hid (HI.out.small n hn32)
   have HN:Hid (n < 32 /\ (T n).kind ≠ 0):=hid ⟨hn32,hnk⟩
   have HSK:=hid hsk
   have HKL:=hid hkl
   have hei:entryI (T d) s = (k:Int):=by unfold entryI;rw [hen]
   rw [hei] at HEN
   have g0:¬ (k:Int) < 0:=by omega
   by_cases hk2:(T n).kind = 2
   ·cases hem:emptyT (T n) with
    | false =>
     rw [un_busy hl hen hn.symm ⟨hk2,.inl hem⟩]
     have HEM:=hid hem
     have HK2:=hid hk2
     clear hl hd hdk hnm hdl hen hei hkl hsk hn hn32 hnk hk2 hem
     go_enter Tryz.func141,Tryz.ntmps141
     go_wp2_with fail
     refine HLS.out.mono ?_
     rintro e w1 ⟨rfl,L1⟩
     have HE2:=hid (HEN.out w1 L1)
     have HX2:=hid L1
     obtain ⟨g,c,sp,us,hL⟩:=docX_open L1
     have c1:=(doc_cells hL).2.1
     have dd3:=((doc_cells hL).2.2 d HD.out).2.2.2.1
     obtain ⟨b,cap,hu,hsc⟩:=doc_slot hL HD.out HSK.out
     rw [hu] at dd3
     have e0:w1.cell? ⟨b,k * 2,none⟩ = some (.int .i64 (n:Nat)):=by simpa using hsc 0 _ rfl
     have e1:w1.cell? ⟨b,k * 2 + 1,none⟩ = some (.string s):=hsc 1 _ rfl
     have b0:=doc_slotfree hL HD.out hu (k * 2)
     have b1:=doc_slotfree hL HD.out hu (k * 2 + 1)
     have nrb:=row_ne (doc_row hL HD.out) (doc_blk hL).1 (by decide)
     have ngb:=row_ne (doc_row hL HD.out) (doc_blk hL).2 (by decide)
     rw [hu] at nrb ngb
     have nr:r ≠ b:=fun e=>nrb (by rw [e];rfl)
     have ng:g ≠ b:=fun e=>ngb (by rw [e];rfl)
     obtain ⟨n0,n1,_,n3,_,n5⟩:=(doc_cells hL).2.2 n HN.out.1
     have gl:=(doc_free hL (n * 6 + 1)).1
     have HUSN:Hid (∀ j o,(T n).slots[j]? = some o -> ∃ b cap,us n = .slice (some ⟨b,0,none⟩) (T n).slots.length cap /\ ∀ i y,(slotV o)[i]? = some y -> w1.cell? ⟨b,j * 2 + i,none⟩ = some y):=hid fun j o h=>doc_slot hL HN.out.1 h
     obtain ⟨aon,capn,hun⟩:=row_any (doc_row hL HN.out.1)
     rw [hun] at n3
     have HUN:=hid hun
     have L2:=doc_slotset hL HBL.out HD.out HKL.out hu (x:=none) (a:=.int .i64 (-1)) (v:=.string ⟨#[]⟩) rfl
     have L3:=doc_turn L2 HBL.out HN.out.1 (j:=1) (v:=.int .i64 ((setT T d { T d with slots:=(T d).slots.set k none } n).links - 1:Nat)) (x:={ setT T d { T d with slots:=(T d).slots.set k none } n with links:=(setT T d { T d with slots:=(T d).slots.set k none } n).links - 1 }) (by omega) rfl rfl
     have hlk:(setT T d { T d with slots:=(T d).slots.set k none } n).links = (T n).links:=setT_proj (T:=T) (n:=d) (fun x=>x.links) (x:={ T d with slots:=(T d).slots.set k none }) rfl n
     obtain ⟨lk,hlk2⟩:∃ l:Int,l = (T n).links:=⟨_,rfl⟩
     rw [show (((setT T d { T d with slots:=(T d).slots.set k none } n).links - 1:Nat):Int) = lk - 1 by rw [hlk,hlk2];have:=HPOS.out;omega] at L3
     rw [<- hlk2] at n1
     have wl:IntKind.i64.wrap (lk - 1) = lk - 1:=by have:=HSM.out;have:=HPOS.out;rw [IntKind.wrap_i64] <;> omega
     have HSW:=hid (dsweep_calls (docX_shut L3) HBL.out HN.out.1)
     obtain ⟨kd,hkd⟩:∃ k:Int,k = (T n).kind:=⟨_,rfl⟩
     obtain ⟨hd,hhd⟩:∃ k:Int,k = (T n).held:=⟨_,rfl⟩
     rw [<- hkd] at n0
     rw [<- hhd] at n5
     obtain ⟨nd,hnd⟩:∃ l,l = (T d).slots.length:=⟨_,rfl⟩
     rw [<- hnd] at dd3
     have HND:=hid hnd
     obtain ⟨nn,hnn⟩:∃ l,l = (T n).slots.length:=⟨_,rfl⟩
     rw [<- hnn] at n3
     have HNN:=hid hnn
     have hknd:k < nd:=by rw [hnd];exact HKL.out
     have hknd2:(k:Int) < (nd:Int):=by omega
     have hd2:(d:Int) < 32:=by have:=HD.out;omega
     have hn2:(n:Int) < 32:=by have:=HN.out.1;omega
     have hnn1000:nn <= 1000:=by have:=HI.out.docok.len n HN.out.1;omega
     have HKDV:=hid hkd
     have HHDV:=hid hhd
     clear L1 hL hu hsc nrb ngb L2 L3 hlk hlk2 hnd hnn hun hkd hhd
     go_wp2_with fail
     refine HE2.out.mono ?_
     rintro e w2 ⟨rfl,rfl⟩
     have t2:(kd == 2) = true:=by rw [beq_iff_eq,HKDV.out,HK2.out];rfl
     go_wp2_with fail
     go_loopw [12] (fun s12 wr=>∃ i:Nat,i <= nn /\ s12 = .int .i64 i /\ wr = w1 /\ Hid (∀ j,j < i -> ∀ o,(T n).slots[j]? = some o -> o = none)) (fun s12 _=>nn - (intOf s12).toNat)
     case atStart=>exact ⟨0,Nat.zero_le _,rfl,rfl,hid fun j h=>absurd h (Nat.not_lt_zero j)⟩
     case round =>
      obtain ⟨i,hi,rfl,hwr,HB0⟩:=hrel
      rw [hwr]
      clear hwr
      by_cases hlt:i < nn
      ·have hlt2:(i:Int) < (nn:Int):=by omega
       have hlen2:i < (T n).slots.length:=by rw [<- HNN.out];exact hlt
       obtain ⟨o,ho⟩:∃ o,(T n).slots[i]? = some o:=⟨_,List.getElem?_eq_getElem hlen2⟩
       obtain ⟨bn,capn2,hu2,hcell⟩:=HUSN.out i o ho
       have hu3:=HUN.out
       rw [hu2] at hu3
       simp only [Value.slice.injEq] at hu3
       obtain ⟨hao,_,hcap⟩:=hu3
       subst hao
       have HO:=hid ho
       cases o with
       | none =>
        have y0:w1.cell? ⟨bn,i * 2,none⟩ = some (.int .i64 (-1)):=by simpa using hcell 0 _ rfl
        have HB2:Hid (∀ j,j < i + 1 -> ∀ o,(T n).slots[j]? = some o -> o = none):=hid fun j hj o' ho'=>by
         by_cases e:j < i
         ·exact HB0.out j e o' ho'
         ·obtain rfl:j = i:=by omega
          rw [HO.out] at ho'
          exact (Option.some.inj ho').symm
        clear hcell ho hu2 hcap
        go_wp2_with fail
        go_roundw
        case rel=>exact ⟨i + 1,hlt,by go_num,by first | trivial | rfl,HB2⟩
        case measure=>simp [intOf] <;> omega
       | some y =>
        obtain ⟨ino2,t2⟩:=y
        have y0:w1.cell? ⟨bn,i * 2,none⟩ = some (.int .i64 (ino2:Nat)):=by simpa using hcell 0 _ rfl
        have gy:(0:Int) <= (ino2:Int):=by omega
        clear hcell ho hu2 hcap
        go_wp2_with fail
        go_ret
        exact ⟨rfl,HX2.out⟩
      ·obtain rfl:i = nn:=by omega
       have hlt2:¬ (i:Int) < (i:Int):=by omega
       exact absurd HEM.out (by rw [is_empty (fun j hj o ho=>HB0.out j (by rw [HNN.out];exact hj) o ho)];decide)
    | true =>
     by_cases hh:0 < (T n).held
     ·rw [un_busy hl hen hn.symm ⟨hk2,.inr hh⟩]
      have HEM:=hid hem
      have HK2:=hid hk2
      have HH:=hid hh
      clear hl hd hdk hnm hdl hen hei hkl hsk hn hn32 hnk hk2 hem hh
      go_enter Tryz.func141,Tryz.ntmps141
      go_wp2_with fail
      refine HLS.out.mono ?_
      rintro e w1 ⟨rfl,L1⟩
      have HE2:=hid (HEN.out w1 L1)
      have HX2:=hid L1
      obtain ⟨g,c,sp,us,hL⟩:=docX_open L1
      have c1:=(doc_cells hL).2.1
      have dd3:=((doc_cells hL).2.2 d HD.out).2.2.2.1
      obtain ⟨b,cap,hu,hsc⟩:=doc_slot hL HD.out HSK.out
      rw [hu] at dd3
      have e0:w1.cell? ⟨b,k * 2,none⟩ = some (.int .i64 (n:Nat)):=by simpa using hsc 0 _ rfl
      have e1:w1.cell? ⟨b,k * 2 + 1,none⟩ = some (.string s):=hsc 1 _ rfl
      have b0:=doc_slotfree hL HD.out hu (k * 2)
      have b1:=doc_slotfree hL HD.out hu (k * 2 + 1)
      have nrb:=row_ne (doc_row hL HD.out) (doc_blk hL).1 (by decide)
      have ngb:=row_ne (doc_row hL HD.out) (doc_blk hL).2 (by decide)
      rw [hu] at nrb ngb
      have nr:r ≠ b:=fun e=>nrb (by rw [e];rfl)
      have ng:g ≠ b:=fun e=>ngb (by rw [e];rfl)
      obtain ⟨n0,n1,_,n3,_,n5⟩:=(doc_cells hL).2.2 n HN.out.1
      have gl:=(doc_free hL (n * 6 + 1)).1
      have HUSN:Hid (∀ j o,(T n).slots[j]? = some o -> ∃ b cap,us n = .slice (some ⟨b,0,none⟩) (T n).slots.length cap /\ ∀ i y,(slotV o)[i]? = some y -> w1.cell? ⟨b,j * 2 + i,none⟩ = some y):=hid fun j o h=>doc_slot hL HN.out.1 h
      obtain ⟨aon,capn,hun⟩:=row_any (doc_row hL HN.out.1)
      rw [hun] at n3
      have HUN:=hid hun
      have L2:=doc_slotset hL HBL.out HD.out HKL.out hu (x:=none) (a:=.int .i64 (-1)) (v:=.string ⟨#[]⟩) rfl
      have L3:=doc_turn L2 HBL.out HN.out.1 (j:=1) (v:=.int .i64 ((setT T d { T d with slots:=(T d).slots.set k none } n).links - 1:Nat)) (x:={ setT T d { T d with slots:=(T d).slots.set k none } n with links:=(setT T d { T d with slots:=(T d).slots.set k none } n).links - 1 }) (by omega) rfl rfl
      have hlk:(setT T d { T d with slots:=(T d).slots.set k none } n).links = (T n).links:=setT_proj (T:=T) (n:=d) (fun x=>x.links) (x:={ T d with slots:=(T d).slots.set k none }) rfl n
      obtain ⟨lk,hlk2⟩:∃ l:Int,l = (T n).links:=⟨_,rfl⟩
      rw [show (((setT T d { T d with slots:=(T d).slots.set k none } n).links - 1:Nat):Int) = lk - 1 by rw [hlk,hlk2];have:=HPOS.out;omega] at L3
      rw [<- hlk2] at n1
      have wl:IntKind.i64.wrap (lk - 1) = lk - 1:=by have:=HSM.out;have:=HPOS.out;rw [IntKind.wrap_i64] <;> omega
      have HSW:=hid (dsweep_calls (docX_shut L3) HBL.out HN.out.1)
      obtain ⟨kd,hkd⟩:∃ k:Int,k = (T n).kind:=⟨_,rfl⟩
      obtain ⟨hd,hhd⟩:∃ k:Int,k = (T n).held:=⟨_,rfl⟩
      rw [<- hkd] at n0
      rw [<- hhd] at n5
      obtain ⟨nd,hnd⟩:∃ l,l = (T d).slots.length:=⟨_,rfl⟩
      rw [<- hnd] at dd3
      have HND:=hid hnd
      obtain ⟨nn,hnn⟩:∃ l,l = (T n).slots.length:=⟨_,rfl⟩
      rw [<- hnn] at n3
      have HNN:=hid hnn
      have hknd:k < nd:=by rw [hnd];exact HKL.out
      have hknd2:(k:Int) < (nd:Int):=by omega
      have hd2:(d:Int) < 32:=by have:=HD.out;omega
      have hn2:(n:Int) < 32:=by have:=HN.out.1;omega
      have hnn1000:nn <= 1000:=by have:=HI.out.docok.len n HN.out.1;omega
      have HKDV:=hid hkd
      have HHDV:=hid hhd
      clear L1 hL hu hsc nrb ngb L2 L3 hlk hlk2 hnd hnn hun hkd hhd
      go_wp2_with fail
      refine HE2.out.mono ?_
      rintro e w2 ⟨rfl,rfl⟩
      have t2:(kd == 2) = true:=by rw [beq_iff_eq,HKDV.out,HK2.out];rfl
      have t3:0 < hd:=by have:=HH.out;have:=HHDV.out;omega
      go_wp2_with fail
      go_loopw [12] (fun s12 wr=>∃ i:Nat,i <= nn /\ s12 = .int .i64 i /\ wr = w1 /\ Hid (∀ j,j < i -> ∀ o,(T n).slots[j]? = some o -> o = none)) (fun s12 _=>nn - (intOf s12).toNat)
      case atStart=>exact ⟨0,Nat.zero_le _,rfl,rfl,hid fun j h=>absurd h (Nat.not_lt_zero j)⟩
      case round =>
       obtain ⟨i,hi,rfl,hwr,HB0⟩:=hrel
       rw [hwr]
       clear hwr
       by_cases hlt:i < nn
       ·have hlt2:(i:Int) < (nn:Int):=by omega
        have hlen2:i < (T n).slots.length:=by rw [<- HNN.out];exact hlt
        obtain ⟨o,ho⟩:∃ o,(T n).slots[i]? = some o:=⟨_,List.getElem?_eq_getElem hlen2⟩
        obtain ⟨bn,capn2,hu2,hcell⟩:=HUSN.out i o ho
        have hu3:=HUN.out
        rw [hu2] at hu3
        simp only [Value.slice.injEq] at hu3
        obtain ⟨hao,_,hcap⟩:=hu3
        subst hao
        have HO:=hid ho
        cases o with
        | none =>
         have y0:w1.cell? ⟨bn,i * 2,none⟩ = some (.int .i64 (-1)):=by simpa using hcell 0 _ rfl
         have HB2:Hid (∀ j,j < i + 1 -> ∀ o,(T n).slots[j]? = some o -> o = none):=hid fun j hj o' ho'=>by
          by_cases e:j < i
          ·exact HB0.out j e o' ho'
          ·obtain rfl:j = i:=by omega
           rw [HO.out] at ho'
           exact (Option.some.inj ho').symm
         clear hcell ho hu2 hcap
         go_wp2_with fail
         go_roundw
         case rel=>exact ⟨i + 1,hlt,by go_num,by first | trivial | rfl,HB2⟩
         case measure=>simp [intOf] <;> omega
        | some y =>
         obtain ⟨ino2,t2⟩:=y
         exact absurd HEM.out (by rw [not_empty HO.out];decide)
       ·obtain rfl:i = nn:=by omega
        have hlt2:¬ (i:Int) < (i:Int):=by omega
        go_wp2_with fail
        go_ret
        exact ⟨rfl,HX2.out⟩
     ·rw [un_ok hl hen hn.symm (by rintro ⟨_,h | h⟩;rw [hem] at h;cases h;exact hh h)]
      have HEM:=hid hem
      have HK2:=hid hk2
      have HH:=hid hh
      clear hl hd hdk hnm hdl hen hei hkl hsk hn hn32 hnk hk2 hem hh
      go_enter Tryz.func141,Tryz.ntmps141
      go_wp2_with fail
      refine HLS.out.mono ?_
      rintro e w1 ⟨rfl,L1⟩
      have HE2:=hid (HEN.out w1 L1)
      have HX2:=hid L1
      obtain ⟨g,c,sp,us,hL⟩:=docX_open L1
      have c1:=(doc_cells hL).2.1
      have dd3:=((doc_cells hL).2.2 d HD.out).2.2.2.1
      obtain ⟨b,cap,hu,hsc⟩:=doc_slot hL HD.out HSK.out
      rw [hu] at dd3
      have e0:w1.cell? ⟨b,k * 2,none⟩ = some (.int .i64 (n:Nat)):=by simpa using hsc 0 _ rfl
      have e1:w1.cell? ⟨b,k * 2 + 1,none⟩ = some (.string s):=hsc 1 _ rfl
      have b0:=doc_slotfree hL HD.out hu (k * 2)
      have b1:=doc_slotfree hL HD.out hu (k * 2 + 1)
      have nrb:=row_ne (doc_row hL HD.out) (doc_blk hL).1 (by decide)
      have ngb:=row_ne (doc_row hL HD.out) (doc_blk hL).2 (by decide)
      rw [hu] at nrb ngb
      have nr:r ≠ b:=fun e=>nrb (by rw [e];rfl)
      have ng:g ≠ b:=fun e=>ngb (by rw [e];rfl)
      obtain ⟨n0,n1,_,n3,_,n5⟩:=(doc_cells hL).2.2 n HN.out.1
      have gl:=(doc_free hL (n * 6 + 1)).1
      have HUSN:Hid (∀ j o,(T n).slots[j]? = some o -> ∃ b cap,us n = .slice (some ⟨b,0,none⟩) (T n).slots.length cap /\ ∀ i y,(slotV o)[i]? = some y -> w1.cell? ⟨b,j * 2 + i,none⟩ = some y):=hid fun j o h=>doc_slot hL HN.out.1 h
      obtain ⟨aon,capn,hun⟩:=row_any (doc_row hL HN.out.1)
      rw [hun] at n3
      have HUN:=hid hun
      have L2:=doc_slotset hL HBL.out HD.out HKL.out hu (x:=none) (a:=.int .i64 (-1)) (v:=.string ⟨#[]⟩) rfl
      have L3:=doc_turn L2 HBL.out HN.out.1 (j:=1) (v:=.int .i64 ((setT T d { T d with slots:=(T d).slots.set k none } n).links - 1:Nat)) (x:={ setT T d { T d with slots:=(T d).slots.set k none } n with links:=(setT T d { T d with slots:=(T d).slots.set k none } n).links - 1 }) (by omega) rfl rfl
      have hlk:(setT T d { T d with slots:=(T d).slots.set k none } n).links = (T n).links:=setT_proj (T:=T) (n:=d) (fun x=>x.links) (x:={ T d with slots:=(T d).slots.set k none }) rfl n
      obtain ⟨lk,hlk2⟩:∃ l:Int,l = (T n).links:=⟨_,rfl⟩
      rw [show (((setT T d { T d with slots:=(T d).slots.set k none } n).links - 1:Nat):Int) = lk - 1 by rw [hlk,hlk2];have:=HPOS.out;omega] at L3
      rw [<- hlk2] at n1
      have wl:IntKind.i64.wrap (lk - 1) = lk - 1:=by have:=HSM.out;have:=HPOS.out;rw [IntKind.wrap_i64] <;> omega
      have HSW:=hid (dsweep_calls (docX_shut L3) HBL.out HN.out.1)
      obtain ⟨kd,hkd⟩:∃ k:Int,k = (T n).kind:=⟨_,rfl⟩
      obtain ⟨hd,hhd⟩:∃ k:Int,k = (T n).held:=⟨_,rfl⟩
      rw [<- hkd] at n0
      rw [<- hhd] at n5
      obtain ⟨nd,hnd⟩:∃ l,l = (T d).slots.length:=⟨_,rfl⟩
      rw [<- hnd] at dd3
      have HND:=hid hnd
      obtain ⟨nn,hnn⟩:∃ l,l = (T n).slots.length:=⟨_,rfl⟩
      rw [<- hnn] at n3
      have HNN:=hid hnn
      have hknd:k < nd:=by rw [hnd];exact HKL.out
      have hknd2:(k:Int) < (nd:Int):=by omega
      have hd2:(d:Int) < 32:=by have:=HD.out;omega
      have hn2:(n:Int) < 32:=by have:=HN.out.1;omega
      have hnn1000:nn <= 1000:=by have:=HI.out.docok.len n HN.out.1;omega
      have HKDV:=hid hkd
      have HHDV:=hid hhd
      clear L1 hL hu hsc nrb ngb L2 L3 hlk hlk2 hnd hnn hun hkd hhd
      go_wp2_with fail
      refine HE2.out.mono ?_
      rintro e w2 ⟨rfl,rfl⟩
      have t2:(kd == 2) = true:=by rw [beq_iff_eq,HKDV.out,HK2.out];rfl
      have t3:¬ 0 < hd:=by have:=HH.out;have:=HHDV.out;omega
      go_wp2_with fail
      go_loopw [12] (fun s12 wr=>∃ i:Nat,i <= nn /\ s12 = .int .i64 i /\ wr = w1 /\ Hid (∀ j,j < i -> ∀ o,(T n).slots[j]? = some o -> o = none)) (fun s12 _=>nn - (intOf s12).toNat)
      case atStart=>exact ⟨0,Nat.zero_le _,rfl,rfl,hid fun j h=>absurd h (Nat.not_lt_zero j)⟩
      case round =>
       obtain ⟨i,hi,rfl,hwr,HB0⟩:=hrel
       rw [hwr]
       clear hwr
       by_cases hlt:i < nn
       ·have hlt2:(i:Int) < (nn:Int):=by omega
        have hlen2:i < (T n).slots.length:=by rw [<- HNN.out];exact hlt
        obtain ⟨o,ho⟩:∃ o,(T n).slots[i]? = some o:=⟨_,List.getElem?_eq_getElem hlen2⟩
        obtain ⟨bn,capn2,hu2,hcell⟩:=HUSN.out i o ho
        have hu3:=HUN.out
        rw [hu2] at hu3
        simp only [Value.slice.injEq] at hu3
        obtain ⟨hao,_,hcap⟩:=hu3
        subst hao
        have HO:=hid ho
        cases o with
        | none =>
         have y0:w1.cell? ⟨bn,i * 2,none⟩ = some (.int .i64 (-1)):=by simpa using hcell 0 _ rfl
         have HB2:Hid (∀ j,j < i + 1 -> ∀ o,(T n).slots[j]? = some o -> o = none):=hid fun j hj o' ho'=>by
          by_cases e:j < i
          ·exact HB0.out j e o' ho'
          ·obtain rfl:j = i:=by omega
           rw [HO.out] at ho'
           exact (Option.some.inj ho').symm
         clear hcell ho hu2 hcap
         go_wp2_with fail
         go_roundw
         case rel=>exact ⟨i + 1,hlt,by go_num,by first | trivial | rfl,HB2⟩
         case measure=>simp [intOf] <;> omega
        | some y =>
         obtain ⟨ino2,t2⟩:=y
         exact absurd HEM.out (by rw [not_empty HO.out];decide)
       ·obtain rfl:i = nn:=by omega
        have hlt2:¬ (i:Int) < (i:Int):=by omega
        go_wp2_with fail
        refine HSW.out.mono ?_
        rintro e w3 ⟨rfl,L9⟩
        have HL9:=hid L9
        clear L9
        go_wp2_with fail
        go_ret
        exact ⟨rfl,HL9.out⟩
   ·rw [un_ok hl hen hn.symm (by rintro ⟨h,_⟩;exact hk2 h)]
    have HK2:=hid hk2
    clear hl hd hdk hnm hdl hen hei hkl hsk hn hn32 hnk hk2
    go_enter Tryz.func141,Tryz.ntmps141
    go_wp2_with fail
    refine HLS.out.mono ?_
    rintro e w1 ⟨rfl,L1⟩
    have HE2:=hid (HEN.out w1 L1)
    have HX2:=hid L1
    obtain ⟨g,c,sp,us,hL⟩:=docX_open L1
    have c1:=(doc_cells hL).2.1
    have dd3:=((doc_cells hL).2.2 d HD.out).2.2.2.1
    obtain ⟨b,cap,hu,hsc⟩:=doc_slot hL HD.out HSK.out
    rw [hu] at dd3
    have e0:w1.cell? ⟨b,k * 2,none⟩ = some (.int .i64 (n:Nat)):=by simpa using hsc 0 _ rfl
    have e1:w1.cell? ⟨b,k * 2 + 1,none⟩ = some (.string s):=hsc 1 _ rfl
    have b0:=doc_slotfree hL HD.out hu (k * 2)
    have b1:=doc_slotfree hL HD.out hu (k * 2 + 1)
    have nrb:=row_ne (doc_row hL HD.out) (doc_blk hL).1 (by decide)
    have ngb:=row_ne (doc_row hL HD.out) (doc_blk hL).2 (by decide)
    rw [hu] at nrb ngb
    have nr:r ≠ b:=fun e=>nrb (by rw [e];rfl)
    have ng:g ≠ b:=fun e=>ngb (by rw [e];rfl)
    obtain ⟨n0,n1,_,n3,_,n5⟩:=(doc_cells hL).2.2 n HN.out.1
    have gl:=(doc_free hL (n * 6 + 1)).1
    have HUSN:Hid (∀ j o,(T n).slots[j]? = some o -> ∃ b cap,us n = .slice (some ⟨b,0,none⟩) (T n).slots.length cap /\ ∀ i y,(slotV o)[i]? = some y -> w1.cell? ⟨b,j * 2 + i,none⟩ = some y):=hid fun j o h=>doc_slot hL HN.out.1 h
    obtain ⟨aon,capn,hun⟩:=row_any (doc_row hL HN.out.1)
    rw [hun] at n3
    have HUN:=hid hun
    have L2:=doc_slotset hL HBL.out HD.out HKL.out hu (x:=none) (a:=.int .i64 (-1)) (v:=.string ⟨#[]⟩) rfl
    have L3:=doc_turn L2 HBL.out HN.out.1 (j:=1) (v:=.int .i64 ((setT T d { T d with slots:=(T d).slots.set k none } n).links - 1:Nat)) (x:={ setT T d { T d with slots:=(T d).slots.set k none } n with links:=(setT T d { T d with slots:=(T d).slots.set k none } n).links - 1 }) (by omega) rfl rfl
    have hlk:(setT T d { T d with slots:=(T d).slots.set k none } n).links = (T n).links:=setT_proj (T:=T) (n:=d) (fun x=>x.links) (x:={ T d with slots:=(T d).slots.set k none }) rfl n
    obtain ⟨lk,hlk2⟩:∃ l:Int,l = (T n).links:=⟨_,rfl⟩
    rw [show (((setT T d { T d with slots:=(T d).slots.set k none } n).links - 1:Nat):Int) = lk - 1 by rw [hlk,hlk2];have:=HPOS.out;omega] at L3
    rw [<- hlk2] at n1
    have wl:IntKind.i64.wrap (lk - 1) = lk - 1:=by have:=HSM.out;have:=HPOS.out;rw [IntKind.wrap_i64] <;> omega
    have HSW:=hid (dsweep_calls (docX_shut L3) HBL.out HN.out.1)
    obtain ⟨kd,hkd⟩:∃ k:Int,k = (T n).kind:=⟨_,rfl⟩
    obtain ⟨hd,hhd⟩:∃ k:Int,k = (T n).held:=⟨_,rfl⟩
    rw [<- hkd] at n0
    rw [<- hhd] at n5
    obtain ⟨nd,hnd⟩:∃ l,l = (T d).slots.length:=⟨_,rfl⟩
    rw [<- hnd] at dd3
    have HND:=hid hnd
    obtain ⟨nn,hnn⟩:∃ l,l = (T n).slots.length:=⟨_,rfl⟩
    rw [<- hnn] at n3
    have HNN:=hid hnn
    have hknd:k < nd:=by rw [hnd];exact HKL.out
    have hknd2:(k:Int) < (nd:Int):=by omega
    have hd2:(d:Int) < 32:=by have:=HD.out;omega
    have hn2:(n:Int) < 32:=by have:=HN.out.1;omega
    have hnn1000:nn <= 1000:=by have:=HI.out.docok.len n HN.out.1;omega
    have HKDV:=hid hkd
    have HHDV:=hid hhd
    clear L1 hL hu hsc nrb ngb L2 L3 hlk hlk2 hnd hnn hun hkd hhd
    go_wp2_with fail
    refine HE2.out.mono ?_
    rintro e w2 ⟨rfl,rfl⟩
    have t2:(kd == 2) = false:=by rw [beq_eq_false_iff_ne];intro h;exact HK2.out (by have:=HKDV.out;omega)
    go_wp2_with fail
    refine HSW.out.mono ?_
    rintro e w3 ⟨rfl,L9⟩
    have HL9:=hid L9
    clear L9
    go_wp2_with fail
    go_ret
    exact ⟨rfl,HL9.out⟩
 ·rw [un_last hl hE]
  have t0:(E != 0) = true:=bne_iff_ne.2 hE
  clear hl hE
  go_enter Tryz.func141,Tryz.ntmps141
  go_wp2_with fail
  refine HLS.out.mono ?_
  rintro e w1 ⟨rfl,L1⟩
  have HX2:=hid L1
  clear L1
  go_wp2_with fail
  go_ret
  exact ⟨rfl,HX2.out⟩
end
end Go.Proofs.YtngalllaiphkhaaGreatDoor
