import Derived.Test.YtngalllaiphkhaaGreatDoorYTnC
import Derived.Deep.RegionHeld3
import Derived.BigQuiet
namespace Go.Proofs.YtngalllaiphkhaaGreatDoor
open Go.RowKit
open Go.Lib (hid)
set_option maxRecDepth 100000
set_option maxHeartbeats 16000000
set_option linter.unusedVariables false
set_option linter.unusedSimpArgs false
theorem srcs_pair (w:World) (x y:Value) (t:TypeId) (c:Nat) (hx:x.oneCell' = true) (hy:y.oneCell' = true):Srcs (w.alloc (.cells #[x,y] t)) (.slice (some ⟨w.heap.size,0,none⟩) 2 c) 2 1 [x,y]:=by
 have:=srcs_two w x y t c hx hy
 obtain ⟨h1,h2,h3⟩:=this
 refine ⟨h1,h2,?_⟩
 rcases h3 with ⟨_,h⟩ | ⟨ad,c',e,h⟩
 ·cases h
 ·right
  simp only [Value.slice.injEq,true_and] at e
  obtain ⟨e1,e2⟩:=e
  cases e1
  exact ⟨_,c,rfl,h⟩
def headTo (l:List Nat) (j:Nat):List UInt8:=UInt8.ofNat l.length :: (l.take j).flatMap twoB
theorem headTo_succ {l:List Nat} {j h:Nat} (hj:l[j]? = some h):headTo l (j + 1) = headTo l j ++ twoB h:=by
 unfold headTo
 rw [List.take_add_one,hj]
 simp
theorem byteV_mod (h:Nat):byteV (UInt8.ofNat (h % 256)) = .int .u8 ((h % 256:Nat):Int):=by
 unfold byteV
 rw [UInt8.toNat_ofNat']
 congr 1
 omega
def lenV:Value -> Nat | .slice _ n _=>n | _=>0
theorem rhead_calls {l:List Nat} {ao:Option Addr} {c:Nat} {w:World} (hS:Srcs w (.slice ao l.length c) l.length 1 (nums l)) (hl:l.length <= 30) (hh:∀ h ∈ l,h < 65536) :
 Calls Tryz.prog 78 #[.slice ao l.length c] w fun e w'=>e = .returned (.string (headP l)) /\ Fr Nob w w':=by
 obtain ⟨n,hn⟩:∃ n,n = l.length:=⟨_,rfl⟩
 have HN:=hid hn
 have HS:=hid hS
 have HH:=hid hh
 rw [<- hn] at hl ⊢
 have L0:byteV (UInt8.ofNat l.length) = .int .u8 (n:Int):=by
  have:=byteV_mod l.length
  rw [Nat.mod_eq_of_lt (by omega)] at this
  rw [this,hn]
 have HL0:=hid L0
 have hcv:IntKind.u8.wrap (n:Int) = (n:Int):=by unfold IntKind.wrap;simp [IntKind.signed,IntKind.bits];omega
 clear hn hS hh L0
 go_enter Tryz.func78,Tryz.ntmps78
 go_wp2_with fail
 go_loopw [3,4] (fun b i wr=>∃ j:Nat,j <= n /\ i = .int .i64 j /\ ∃ ao c,b = .slice ao (1 + 2 * j) c /\ wr.ownsRow 0 5 1 (.slice ao (1 + 2 * j) c) (1 + 2 * j) ((headTo l j).map byteV) /\ (∀ k,(Value.slice ao (1 + 2 * j) c).ownBlock = some k -> w.heap.size <= k) /\ Fr Nob w wr) (fun _ i _=>n - (intOf i).toNat)
 case atStart =>
  refine ⟨0,Nat.zero_le _,rfl,some ⟨w.heap.size,0,none⟩,1,rfl,?_,fun k hk=>by simp [Value.ownBlock] at hk;omega,(Fr.refl _ _).alloc _⟩
  have e:(headTo l 0).map byteV = [.int .u8 (n:Int)]:=by unfold headTo;simp [HL0.out]
  rw [e]
  exact ⟨rfl,.inr ⟨w.heap.size,1,#[.int .u8 (n:Int)],rfl,Nat.zero_le _,Blk.new _ _ [_],Nat.le_refl _,by unfold maxLen;omega,rfl,by simp⟩⟩
 case round =>
  obtain ⟨j,hj,rfl,a2,c2,rfl,hown,hlt0,hf⟩:=hrel
  have HO:=hid hown
  have HL:=hid hlt0
  have HF:=hid hf
  clear hown hlt0 hf
  by_cases hlt:j < n
  ·obtain ⟨h,hx⟩:∃ h,l[j]? = some h:=⟨_,List.getElem?_eq_getElem (by rw [<- HN.out];exact hlt)⟩
   obtain ⟨g,off,rfl,cx⟩:=HS.out.at (j:=j) (u:=.int .i64 (h:Int)) (by simp [nums,hx])
   have cx:=HF.out.cell cx (fun h=>h)
   have hh6:=HH.out h (List.mem_of_getElem? hx)
   have w1:IntKind.u8.wrap ((h:Int).tmod 256) = ((h % 256:Nat):Int):=by rw [Int.tmod_eq_emod_of_nonneg (by omega)];unfold IntKind.wrap;simp [IntKind.signed,IntKind.bits]
   have w2:IntKind.u8.wrap (IntKind.i64.wrap ((h:Int) / 256)) = ((h / 256 % 256:Nat):Int):=by rw [show IntKind.i64.wrap ((h:Int) / 256) = (h:Int) / 256 by rw [IntKind.wrap_i64];omega];unfold IntKind.wrap;simp [IntKind.signed,IntKind.bits]
   have HX:=hid hx
   have W1:=hid w1
   have W2:=hid w2
   clear hx w1 w2
   go_wp2_with fail
   go_region_law (first
    | (refine step_append_mine rfl (ho:=rfl) (s:=.tmp 15) (x:=.tmp 28) Tryz.rowU8 (v:=.slice a2 (1 + 2 * j) c2) (by simp [Act.eval]) ((HO.out.drew).alloc _) (src:=.slice (some ⟨wr.heap.size,0,none⟩) 2 2) (by simp [Act.eval]) (srcs_pair wr.drew _ _ _ 2 rfl rfl) (by omega) ?_;intro v' w3 hown3 hf3 hv3 _;obtain ⟨g',cap',rfl⟩:=row_succ hown3))
   all_goals
    rw [W1.out,W2.out] at hown3
    go_wp2_with fail
    go_roundw
    case rel =>
     have e:1 + 2 * j + 1 + 1 = 1 + 2 * (j + 1):=by omega
     refine ⟨j + 1,hlt,by go_num,some ⟨g',0,none⟩,cap',by rw [e],?_,?_,?_⟩
     ·rw [headTo_succ HX.out,List.map_append]
      have e2:(twoB h).map byteV = [.int .u8 ((h % 256:Nat):Int),.int .u8 ((h / 256 % 256:Nat):Int)]:=by unfold twoB;rw [List.map_cons,List.map_cons,List.map_nil,byteV_mod,byteV_mod]
      rw [e2,<- e]
      exact hown3
     ·intro k hk
      rw [<- e] at hk
      rcases hv3 k hk with h | h
      ·exact HL.out k h
      ·have:=HF.out.size
       simp at h
       omega
     ·exact ((HF.out.drew.alloc _).trans' hf3 (fun i hi e=>by have:=HL.out i e;omega))
    case measure=>simp [intOf];omega
  ·obtain rfl:j = n:=by omega
   have hR1:∃ m:Nat,1 + 2 * j <= m /\ m <= 64 /\ ∃ ao c,Value.slice a2 (1 + 2 * j) c2 = .slice ao m c /\ wr.ownsRow 0 5 1 (.slice ao m c) m ((headTo l j ++ List.replicate (m - (1 + 2 * j)) 0).map byteV) /\ (∀ k,(Value.slice ao m c).ownBlock = some k -> w.heap.size <= k) /\ Fr Nob w wr :=
    ⟨1 + 2 * j,Nat.le_refl _,by omega,a2,c2,rfl,by rw [Nat.sub_self,List.replicate_zero,List.append_nil];exact HO.out,HL.out,HF.out⟩
   clear HO HL HF
   go_wp2_with fail
   go_loopw [3] (fun b wr=>∃ m:Nat,1 + 2 * j <= m /\ m <= 64 /\ ∃ ao c,b = .slice ao m c /\ wr.ownsRow 0 5 1 (.slice ao m c) m ((headTo l j ++ List.replicate (m - (1 + 2 * j)) 0).map byteV) /\ (∀ k,(Value.slice ao m c).ownBlock = some k -> w.heap.size <= k) /\ Fr Nob w wr) (fun b _=>64 - lenV b)
   case atStart=>exact hR1
   case round =>
    obtain ⟨m,hm1,hm2,a3,c3,rfl,hown,hlt0,hf⟩:=hrel
    have HO:=hid hown
    have HL:=hid hlt0
    have HF:=hid hf
    clear hown hlt0 hf hR1
    by_cases hlt6:m < 64
    ·go_wp2_with (at_builtin;refine wpList_append_mine rfl (ho:=rfl) (s:=.tmp 33) (x:=.tmp 34) Tryz.rowU8 rfl (HO.out.alloc _) rfl (srcs_one _ _ _ 1 rfl) (by omega) ?_;intro v' w3 hown3 hf3 hv3 _;obtain ⟨g',cap',rfl⟩:=row_succ hown3)
     go_roundw
     case rel =>
      refine ⟨m + 1,by omega,by omega,_,_,rfl,?_,?_,?_⟩
      ·have e:headTo l j ++ List.replicate (m + 1 - (1 + 2 * j)) 0 = (headTo l j ++ List.replicate (m - (1 + 2 * j)) 0) ++ [0]:=by
        rw [show m + 1 - (1 + 2 * j) = (m - (1 + 2 * j)) + 1 by omega,List.replicate_succ',List.append_assoc]
       rw [e,List.map_append]
       exact hown3
      ·intro k hk
       rcases hv3 k hk with h | h
       ·exact HL.out k h
       ·have:=HF.out.size
        simp at h
        omega
      ·exact ((HF.out.alloc _).trans' hf3 (fun i hi e=>by have:=HL.out i e;omega))
     case measure=>simp [lenV];omega
    ·obtain rfl:m = 64:=by omega
     obtain ⟨g,c',hgc⟩:∃ g cap,Value.slice a3 64 c3 = .slice (some ⟨g,0,none⟩) 64 cap:=(row_form HO.out).elim (fun h=>by have:=h.2;omega) id
     simp only [Value.slice.injEq,true_and] at hgc
     obtain ⟨rfl,rfl⟩:=hgc
     have hc:=HO.out.cells (g:=g) rfl
     rw [map_bytes] at hc
     have HC:=hid hc
     have hfin:headTo l j ++ List.replicate (64 - (1 + 2 * j)) 0 = headL l:=by
      unfold headTo headL
      rw [HN.out,List.take_length,List.cons_append,show 64 - (1 + 2 * l.length) = 63 - 2 * l.length by omega]
     have HFIN:=hid hfin
     have hlen:((headTo l j ++ List.replicate (64 - (1 + 2 * j)) (0:UInt8)).map fun b=>(b.toNat:Int)).length = 64:=by rw [List.length_map,hfin,headL_length (by rw [<- HN.out];exact hl)]
     clear hc hfin
     go_wp2_with (with_reducible show wpList _ _ _ _ _ _;refine wpList_bytes_string (x:=.tmp 36) rfl rfl Tryz.underlying116 Tryz.underlying5 Tryz.underlying9 rfl hlen HC.out ?_;rw [strOf_bytes,HFIN.out])
     go_ret
     exact ⟨rfl,HF.out⟩
theorem rhomes_calls {s:ByteArray} (hz:s.size = 64) (most:Int) (w:World):Calls Tryz.prog 36 #[.string s,.int .i64 most] w (HomesRet s most w):=by
 have h0:0 < s.size:=by omega
 have hb0:=byteAt_get h0
 obtain ⟨n,hn⟩:∃ n,n = byteAt s 0:=⟨_,rfl⟩
 have hn2:=byteAt_lt s 0
 have hsz:(s.size:Int) = 64:=by omega
 rw [<- hn] at hb0 hn2
 have hbi:(s[0].toNat:Int) = (n:Int):=by rw [<- hb0]
 have HN:=hid hn
 clear hn hb0
 by_cases h30:30 < n
 ·have HB:Hid (homesP s most = none):=(show homesP s most = none by rw [homesP_eq,if_neg (fun h=>by have:=h.1;rw [<- HN.out] at this;omega)])
  have h30':(30:Int) < (n:Int):=by omega
  go_enter Tryz.func36,Tryz.ntmps36
  go_wp2
  go_ret2
  exact homesRet_none HB.out (Fr.refl _ _)
 ·have h30':¬ (30:Int) < (n:Int):=by omega
  go_enter Tryz.func36,Tryz.ntmps36
  go_wp2_with fail
  go_loopw [7,8] (fun o i wr=>∃ j:Nat,j <= n /\ i = .int .i64 j /\ rising s most j = true /\ ∃ ao c,o = .slice ao j c /\ wr.ownsRow 0 tIntE 1 (.slice ao j c) j (nums (hs s j)) /\ (∀ k,(Value.slice ao j c).ownBlock = some k -> w.heap.size <= k) /\ Fr Nob w wr) (fun _ i _=>n - (intOf i).toNat)
  case atStart=>exact ⟨0,Nat.zero_le _,rfl,rfl,none,0,rfl,World.ownsRow_nil _ _ _ _,fun k hk=>(by cases hk),Fr.refl _ _⟩
  case round =>
   obtain ⟨j,hj,rfl,hri,ao,c,rfl,hown,hnew,hf⟩:=hrel
   have HO:=hid hown
   have HW:=hid hnew
   have HF:=hid hf
   have HRI:=hid hri
   clear hown hnew hf hri
   by_cases hlt:j < n
   ·have i1:1 + 2 * j < s.size:=by omega
    have i2:2 + 2 * j < s.size:=by omega
    obtain ⟨x1,e1⟩:∃ x,x = byteAt s (1 + 2 * j):=⟨_,rfl⟩
    obtain ⟨x2,e2⟩:∃ x,x = byteAt s (2 + 2 * j):=⟨_,rfl⟩
    have d1:∀ W:World,(Instr.index 9 (.string s) (.int .i64 (1 + 2 * (j:Int)))).run Tryz.prog W = .ok (.int .u8 (x1:Int)) W:=fun W=>by
     rw [e1,byteAt_get i1];exact run_index_at (by omega) i1
    have d2:∀ W:World,(Instr.index 9 (.string s) (.int .i64 (2 + 2 * (j:Int)))).run Tryz.prog W = .ok (.int .u8 (x2:Int)) W:=fun W=>by
     rw [e2,byteAt_get i2];exact run_index_at (by omega) i2
    have hx1:x1 < 256:=by rw [e1];exact byteAt_lt _ _
    have hx2:x2 < 256:=by rw [e2];exact byteAt_lt _ _
    have w1:IntKind.i64.wrap (2 * (j:Int)) = 2 * (j:Int):=by rw [IntKind.wrap_i64];omega
    have w2:IntKind.i64.wrap (1 + 2 * (j:Int)) = 1 + 2 * (j:Int):=by rw [IntKind.wrap_i64];omega
    have w3:IntKind.i64.wrap (2 + 2 * (j:Int)) = 2 + 2 * (j:Int):=by rw [IntKind.wrap_i64];omega
    have w4:IntKind.i64.wrap (256 * (x2:Int)) = 256 * (x2:Int):=by rw [IntKind.wrap_i64];omega
    have w5:IntKind.i64.wrap ((x1:Int) + 256 * (x2:Int)) = (x1:Int) + 256 * (x2:Int):=by rw [IntKind.wrap_i64];omega
    have E1:=hid e1
    have E2:=hid e2
    clear e1 e2 i1 i2
    go_wp2_with fail
    go_quiet (fail)
    have hx12:((x1:Int) + 256 * (x2:Int)) = ((homeAt s j:Nat):Int):=by unfold homeAt;rw [<- E1.out,<- E2.out];omega
    have hlt6:=homeAt_lt s j
    have HF2:Hid (Fr Nob w (wr.drewN nq)):=HF.out.drewN nq
    have HO2:Hid ((wr.drewN nq).ownsRow 0 tIntE 1 (Value.slice ao j c) j (nums (hs s j))):=row_fr HO.out ((Fr.refl Nob _).drewN nq) (fun _ _ h=>h)
    obtain ⟨h,hh⟩:∃ h,h = homeAt s j:=⟨_,rfl⟩
    have HH:=hid hh
    rw [hx12,<- hh]
    rw [<- hh] at hlt6
    clear hx12 HO hh d1 d2 hx1 hx2 w1 w2 w3 w4 w5
    -- what the round comes to where the home sector may stand here
    have fin:∀ (v':Value) (w3:World) (g c':Nat),v' = .slice (some ⟨g,0,none⟩) (j + 1) c' -> risesAt s most j = true -> w3.ownsRow 0 tIntE 1 v' (j + 1) (nums (hs s j) ++ [.int .i64 (h:Int)]) -> Fr (fun k=>(Value.slice ao j c).ownBlock = some k) ((wr.drewN nq).alloc (.cells #[.int .i64 (h:Int)] tIntE)) w3 ->
     (∀ k,v'.ownBlock = some k -> (Value.slice ao j c).ownBlock = some k \/ ((wr.drewN nq).alloc (.cells #[.int .i64 (h:Int)] tIntE)).heap.size <= k) ->
     ∃ j':Nat,j' <= n /\ Value.int .i64 ((j:Int) + 1) = .int .i64 j' /\ rising s most j' = true /\ ∃ ao c,v' = .slice ao j' c /\ w3.ownsRow 0 tIntE 1 (.slice ao j' c) j' (nums (hs s j')) /\ (∀ k,(Value.slice ao j' c).ownBlock = some k -> w.heap.size <= k) /\ Fr Nob w w3:=by
     rintro v' w3 g c' rfl hri hown3 hf3 hv3
     refine ⟨j + 1,hlt,by go_num,?_,_,_,rfl,?_,?_,?_⟩
     ·rw [rising_succ,HRI.out,hri];rfl
     ·rw [hs_succ,<- HH.out]
      simpa [nums] using hown3
     ·intro k hk
      rcases hv3 k hk with h | h
      ·exact HW.out k h
      ·have:=HF2.out.size
       simp at h this
       omega
     ·exact ((HF2.out.alloc _).trans' hf3 (fun i hi e=>by have:=HW.out i e;omega))
    have FIN:=hid fin
    clear fin
    by_cases hm:most <= (h:Int)
    ·have HB:Hid (homesP s most = none):=(show homesP s most = none by
      rw [homesP_eq,if_neg]
      rintro ⟨_,h2,_⟩
      rw [rising_bad (j:=j) (by rw [<- HN.out];exact hlt) (by unfold risesAt;rw [<- HH.out,decide_eq_false (by omega)];rfl)] at h2
      cases h2)
     go_wp2
     go_ret2
     exact homesRet_none HB.out HF2.out
    by_cases hj0:j = 0
    ·subst hj0
     have hri:risesAt s most 0 = true:=by unfold risesAt;rw [<- HH.out,decide_eq_true (by omega)];rfl
     have HRJ:=hid hri
     clear hri
     go_wp2_with (at_builtin;refine wpList_append_mine rfl (ho:=rfl) (s:=.tmp 50) (x:=.tmp 52) Tryz.rowInt rfl (HO2.out.alloc _) rfl (srcs_one (wr.drewN nq) _ _ 1 rfl) (by omega) ?_;intro v' w3 hown3 hf3 hv3 _;obtain ⟨g',cap',rfl⟩:=row_succ hown3)
     go_roundw
     case rel=>exact FIN.out _ w3 g' cap' rfl HRJ.out hown3 hf3 hv3
     case measure=>simp [intOf];omega
    ·obtain ⟨g,c',hgc⟩:∃ g cap,Value.slice ao j c = .slice (some ⟨g,0,none⟩) j cap:=(row_form HO2.out).elim (fun h=>by have:=h.2;omega) id
     simp only [Value.slice.injEq,true_and] at hgc
     obtain ⟨rfl,rfl⟩:=hgc
     have hc:=HO2.out.cells (g:=g) rfl (j - 1) (.int .i64 (homeAt s (j - 1):Int)) (by unfold nums;rw [List.getElem?_map,hs_get s (by omega)];rfl)
     simp only [Addr.add_lit,Nat.zero_add] at hc
     have hj1:((j:Int) - 1) = ((j - 1:Nat):Int):=by omega
     obtain ⟨q,hq⟩:∃ q,q = homeAt s (j - 1):=⟨_,rfl⟩
     rw [<- hq] at hc
     have HQ:=hid hq
     have hpos:(0:Int) < (j:Int):=by omega
     have hjl:j - 1 < j:=by omega
     clear hq
     by_cases hle:(h:Int) <= (q:Int)
     ·have HB:Hid (homesP s most = none):=(show homesP s most = none by
       rw [homesP_eq,if_neg]
       rintro ⟨_,h2,_⟩
       rw [rising_bad (j:=j) (by rw [<- HN.out];exact hlt) (by unfold risesAt;rw [<- HH.out,<- HQ.out,decide_eq_false (p:=q < h) (by omega),show (j == 0) = false from beq_eq_false_iff_ne.2 hj0];simp)] at h2
       cases h2)
      go_wp2
      go_ret2
      exact homesRet_none HB.out HF2.out
     ·have hri:risesAt s most j = true:=by unfold risesAt;rw [<- HH.out,<- HQ.out,decide_eq_true (by omega),decide_eq_true (p:=q < h) (by omega)];simp
      have HRJ:=hid hri
      clear hri
      go_wp2_with (at_builtin;refine wpList_append_mine rfl (ho:=rfl) (s:=.tmp 50) (x:=.tmp 52) Tryz.rowInt rfl (HO2.out.alloc _) rfl (srcs_one (wr.drewN nq) _ _ 1 rfl) (by omega) ?_;intro v' w3 hown3 hf3 hv3 _;obtain ⟨g',cap',rfl⟩:=row_succ hown3)
      go_roundw
      case rel=>exact FIN.out _ w3 g' cap' rfl HRJ.out hown3 hf3 hv3
      case measure=>simp [intOf];omega
   ·obtain rfl:j = n:=by omega
    have hln:=hs_length s j
    have hhc:=rhead_calls (l:=hs s j) (ao:=ao) (c:=c) (w:=wr) (by rw [hln];exact row_srcs HO.out (nums_one _)) (by rw [hln];omega) (by intro h hh;obtain ⟨i,_,rfl⟩:=List.mem_map.1 hh;exact homeAt_lt s i)
    rw [hln] at hhc
    have hcmp:=bytes_beq (headP (hs s j)) s
    go_wp2_with fail
    refine hhc.mono ?_
    rintro e w2 ⟨rfl,hf2⟩
    have HF2:Hid (Fr Nob w w2):=HF.out.trans hf2
    have HO2:Hid (w2.ownsRow 0 tIntE 1 (Value.slice ao j c) j (nums (hs s j))):=row_fr HO.out hf2 (fun _ _ h=>h)
    clear hhc hf2
    by_cases he:headP (hs s j) = s
    ·have HP:Hid (homesP s most = some (hs s j)):=(show homesP s most = some (hs s j) by
      rw [homesP_eq,<- HN.out,if_pos ⟨by omega,HRI.out,he⟩])
     rw [decide_eq_true he] at hcmp
     clear he
     go_wp2
     go_ret2
     refine ⟨HF2.out,_,by rw [HP.out];rfl,fun l hl=>?_⟩
     rw [HP.out] at hl
     simp only [Option.some.injEq] at hl
     subst hl
     rw [hln]
     exact ⟨HO2.out,HW.out⟩
    ·have HP:Hid (homesP s most = none):=(show homesP s most = none by
      rw [homesP_eq,<- HN.out,if_neg (fun h=>he h.2.2)])
     rw [decide_eq_false he] at hcmp
     clear he
     go_wp2
     go_ret2
     exact homesRet_none HP.out HF2.out
end Go.Proofs.YtngalllaiphkhaaGreatDoor
