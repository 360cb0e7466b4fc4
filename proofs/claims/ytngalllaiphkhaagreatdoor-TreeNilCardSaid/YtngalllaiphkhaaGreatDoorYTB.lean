import Derived.Test.YtngalllaiphkhaaGreatDoorShelfT
import Derived.Test.YtngalllaiphkhaaGreatDoorYTA
import Derived.Lib.IndexAny
import Derived.Lib.MapLaws
import Derived.Laws.RangeAny
import Derived.Laws.Runes
import Derived.WalkMore
namespace Go.Proofs.YtngalllaiphkhaaGreatDoor
open Go.RowKit
open Go.Lib (hid)
set_option maxRecDepth 100000
set_option maxHeartbeats 16000000
set_option linter.unusedVariables false
set_option linter.unusedSimpArgs false
def strokes:ByteArray:=⟨#[47,0]⟩
theorem dec_high {s:ByteArray} {i:Nat} (hi:i < s.size) (hb:128 <= (s[i]'hi).toNat) :
 128 <= (Utf8.decode s i).1 /\ (Utf8.decode s i).1 <= 1114111 /\ 1 <= (Utf8.decode s i).2 /\ i + (Utf8.decode s i).2 <= s.size /\ ∀ j,i <= j -> j < i + (Utf8.decode s i).2 -> 128 <= byteAt s j:=by
 have hg:∀ j,(s.get! j).toNat = byteAt s j:=fun j=>by
  unfold byteAt
  rw [List.getD,Array.getElem?_toList]
  show (s.data[j]!).toNat = _
  rw [getElem!_def]
  cases s.data[j]? <;> rfl
 have h0:byteAt s i = (s[i]'hi).toNat:=byteAt_get hi
 rw [Lib.decode_at]
 simp only [hg]
 rw [<- h0] at hb
 rcases Lib.decodeN_shape (s.size - i) (byteAt s i) (byteAt s (i + 1)) (byteAt s (i + 2)) (byteAt s (i + 3)) with ⟨a,_⟩ | ⟨a1,a2,a3,a4,e⟩ | ⟨a1,a2,a3,a4,a5,a6,e⟩ | ⟨a1,a2,a3,a4,a5,a6,a7,e⟩ | e
 ·omega
 ·rw [e]
  refine ⟨a4,by omega,by omega,by omega,fun j h1 h2=>?_⟩
  obtain rfl | rfl:j = i \/ j = i + 1:=by omega
  ·exact hb
  ·omega
 ·rw [e]
  refine ⟨by omega,by omega,by omega,by omega,fun j h1 h2=>?_⟩
  obtain rfl | rfl | rfl:j = i \/ j = i + 1 \/ j = i + 2:=by omega
  ·exact hb
  ·omega
  ·omega
 ·rw [e]
  refine ⟨by omega,by omega,by omega,by omega,fun j h1 h2=>?_⟩
  obtain rfl | rfl | rfl | rfl:j = i \/ j = i + 1 \/ j = i + 2 \/ j = i + 3:=by omega
  ·exact hb
  ·omega
  ·omega
  ·omega
 ·rw [e]
  refine ⟨by omega,by omega,by omega,by omega,fun j h1 h2=>?_⟩
  obtain rfl:j = i:=by omega
  exact hb
theorem enc_high {r:Int} (h:128 <= r):2 <= (Utf8.encode r).size /\ (Utf8.encode r).size <= 4 /\ ((Utf8.encode r).size = 2 -> 128 <= byteAt (Utf8.encode r) 1):=by
 unfold Utf8.encode
 obtain ⟨c,hc,hc2⟩:∃ c,c = (if Utf8.valid r then r.toNat else Utf8.runeError) /\ 128 <= c:=⟨_,rfl,by
  split
  ·omega
  ·decide⟩
 simp only [<- hc]
 rw [if_neg (by omega)]
 split
 ·refine ⟨Nat.le_refl _,by show 2 <= 4;omega,fun _=>?_⟩
  show 128 <= (UInt8.ofNat (0x80 + c % 64)).toNat
  rw [UInt8.toNat_ofNat']
  omega
 ·split
  ·exact ⟨by show 2 <= 3;omega,by show 3 <= 4;omega,fun e=>absurd (show (3:Nat) = 2 from e) (by omega)⟩
  ·exact ⟨by show 2 <= 4;omega,by show 4 <= 4;omega,fun e=>absurd (show (4:Nat) = 2 from e) (by omega)⟩
theorem inBlock_ret {Q:Exit -> Act -> World -> Prop} {id:Nat} {a:Act} {w:World}:Exit.inBlock id Q .ret a w = Q .ret a w:=rfl
theorem then_ret {Q:Exit -> Act -> World -> Prop} {K:Act -> World -> Prop} {a:Act} {w:World}:Exit.then K Q .ret a w = Q .ret a w:=rfl
theorem tirune_calls {r:Int} (h0:128 <= r) (h1:r <= 1114111) (w:World) :
 Calls Tryz.prog 208 #[.string strokes,.int .i32 r] w fun e w'=>e = .returned (.int .i64 (-1)) /\ Fr Nob w w':=by
 have a0:(0:Int) <= r:=by omega
 have a1:¬ r < 128:=by omega
 go_enter Tryz.func208,Tryz.ntmps208
 by_cases hr:r = 65533
 ·subst hr
  go_wp2_with fail
  go_loopg [5,6] 2 (fun g _ _ wx=>∃ i:Nat,i + g = 2 /\ wx = w.iter strokes i)
  case atStart=>exact ⟨0,rfl,rfl⟩
  case round =>
   obtain ⟨i,hig,rfl⟩:=hrel
   cases gk with
   | zero =>
    obtain rfl:i = 2:=by omega
    have hnx:=fun ty=>run_next_end (P:=Tryz.prog) w strokes 2 ty (by decide)
    go_wp2_with fail
    go_ret
    exact ⟨rfl,(Fr.refl _ _).alloc _⟩
   | succ g =>
    obtain ⟨rfl,rfl⟩ | ⟨rfl,rfl⟩:(i = 0 /\ g = 1) \/ (i = 1 /\ g = 0):=by omega
    ·have hnx:=fun ty=>run_next_ascii (P:=Tryz.prog) w strokes 0 ty (by decide) (by decide)
     go_wp2_with fail
     go_roundg 1
     case measure=>omega
     case rel=>exact ⟨1,rfl,rfl⟩
    ·have hnx:=fun ty=>run_next_ascii (P:=Tryz.prog) w strokes 1 ty (by decide) (by decide)
     go_wp2_with fail
     go_roundg 0
     case measure=>omega
     case rel=>exact ⟨2,rfl,rfl⟩
 ·have a2:(r == 65533) = false:=by simpa using hr
  have HV:=Tryz.utf8_ValidRune r w
  go_wp2_with fail
  refine HV.mono ?_
  rintro e w1 ⟨rfl,rfl⟩
  cases hv:Lib.validRune r
  ·go_wp2_with fail
   go_ret
   exact ⟨rfl,Fr.refl _ _⟩
  ·obtain ⟨e1,e2,e3⟩:=enc_high h0
   obtain ⟨rs,hrs⟩:∃ rs,Utf8.encode r = rs:=⟨_,rfl⟩
   rw [hrs] at e1 e2 e3
   have m1:(Utf8.encode r).size <= maxLen:=by rw [hrs];unfold maxLen;omega
   have m2:rs.size <= maxLen:=by unfold maxLen;omega
   have m3:rs.size <= 140737488355328:=by omega
   have b0:strokes.size = 2:=rfl
   have hcv:∀ W:World,(convert 21 9 (.int .i32 r)).run Tryz.prog W = .ok (.string rs) W:=fun W=>by
    rw [<- hrs]
    exact run_convert_int_string W _ _ _ r (by kernel_rfl) (by kernel_rfl)
   by_cases h2:rs.size = 2
   ·have h128:=e3 h2
    have b1:((2:Int) - 1) = 1:=rfl
    have hsz:(rs.size:Int) = 2:=by omega
    have d1:∀ W:World,(Instr.index 9 (.string strokes) (.int .i64 1)).run Tryz.prog W = .ok (.int .u8 0) W:=fun W=>by
     exact run_index_at (s:=strokes) (i:=1) (k:=1) rfl (by decide)
    have d2:∀ W:World,(Instr.index 9 (.string rs) (.int .i64 1)).run Tryz.prog W = .ok (.int .u8 (byteAt rs 1:Int)) W:=fun W=>by
     rw [byteAt_get (by omega)];exact run_index_at (by rfl) (by omega)
    obtain ⟨bq,hbq⟩:∃ bq,bq = byteAt rs 1:=⟨_,rfl⟩
    rw [<- hbq] at d2 h128
    have hne:((0:Int) != (bq:Int)) = true:=by simp;omega
    have HIB:Hid (∀ W:World,Calls Tryz.prog 217 #[.string (strokes.extract 2 2),.int .u8 bq] W fun e w'=>e = .returned (.int .i64 (-1)) /\ Fr Nob W w'):=hid fun W =>
     (Tryz.strings_IndexByte (strokes.extract 2 2) bq W).mono fun _ _ ⟨e1,e2⟩=>⟨e1,by rw [e2];exact Fr.refl _ _⟩
    have hw2:IntKind.i64.wrap 2 = 2:=rfl
    clear hbq
    go_wp2_with fail
    go_step3
    go_wp2_with fail
    go_loopw [9,10] (fun s9 s10 wr=>s9 = .int .i64 1 /\ wr = w1) (fun _ _ _=>0)
    case atStart=>exact ⟨rfl,rfl⟩
    case round =>
     obtain ⟨rfl,rfl⟩:=hrel
     go_wp2_with fail
     go_step3
     go_wp2_with fail
     go_region
     go_wp2_with fail
     refine wp_region_from (by kernel_rfl) (by kernel_rfl) ?_
     repeat (quiet_step (first | (go_at_call 217;exact Calls.frfrom (HIB.out _))))
     refine wpQuiet_nil ?_
     rintro _ ⟨p,rfl⟩
     go_wp2_with fail
     simp +zetaDelta only [Exit.noGoto_ret,inBlock_ret,then_ret]
     go_ret
     exact ⟨rfl,(Fr.refl _ _).drew.trans p.fr⟩
   ·have h3:¬ ((rs.size:Int) - 1 < 2):=by omega
    have hw1:IntKind.i64.wrap ((rs.size:Int) - 1) = (rs.size:Int) - 1:=by rw [IntKind.wrap_i64] <;> omega
    go_wp2_with fail
    go_step3
    go_wp2_with fail
    go_loopw [9,10] (fun s9 s10 wr=>s9 = .int .i64 ((rs.size:Int) - 1) /\ wr = w1) (fun _ _ _=>0)
    case atStart=>exact ⟨rfl,rfl⟩
    case round =>
     obtain ⟨rfl,rfl⟩:=hrel
     go_wp2_with fail
     rw [Exit.noGoto_ret]
     go_ret
     exact ⟨rfl,Fr.refl _ _⟩
def cleanT (s:ByteArray):Bool:=s.data.toList.all (fun b=>b != 47 && b != 0)
theorem next_any {P:Program} {W:World} {s:ByteArray} {b pos:Nat} (hb:W.heap[b]? = some (.stringIter s pos)) (h:pos < s.size) (ty:TypeId) :
 (Instr.next (.pointer (some ⟨b,0,none⟩)) true ty).run P W = .ok (.tuple #[.bool true,.int .i64 pos,.int .i32 (Utf8.decode s pos).1]) (W.putObj b (.stringIter s (pos + (Utf8.decode s pos).2))):=by
 simp [Instr.next,getObj,setObj,Sem.run,hb,h,goInt,World.putObj]
theorem next_end {P:Program} {W:World} {s:ByteArray} {b pos:Nat} (hb:W.heap[b]? = some (.stringIter s pos)) (h:¬ pos < s.size) (ty:TypeId) :
 (Instr.next (.pointer (some ⟨b,0,none⟩)) true ty).run P W = .ok (.tuple #[.bool false]) W:=by
 simp [Instr.next,getObj,Sem.run,hb,h]
theorem indexAny_iff (l:List UInt8):0 <= Lib.indexAny l [47,0] ↔ l.all (fun b=>b != 47 && b != 0) = false:=by
 induction l with
 | nil=>simp [Lib.indexAny]
 | cons b l ih =>
  have hg:=Lib.indexAny_ge [47,0] l
  rw [Lib.indexAny]
  by_cases hb:b = 47 \/ b = 0
  ·rw [if_pos (by rcases hb with rfl | rfl <;> decide)]
   constructor
   ·intro _
    rw [List.all_cons]
    rcases hb with rfl | rfl <;> rfl
   ·intro _;omega
  ·have h1:(b != 47 && b != 0) = true:=by
    simp only [Bool.and_eq_true,bne_iff_ne,ne_eq]
    exact ⟨fun e=>hb (.inl e),fun e=>hb (.inr e)⟩
   rw [if_neg (by simpa using hb),List.all_cons,h1,Bool.true_and,<- ih]
   by_cases h2:Lib.indexAny l [47,0] = -1
   ·rw [h2];decide
   ·rw [if_neg (by simpa using h2)];omega
theorem indexByte_two {c:Int} (h0:0 <= c) (h1:c < 128):0 <= Lib.indexByte strokes.data.toList c.toNat.toUInt8 ↔ c = 47 \/ c = 0:=by
 obtain ⟨k,rfl⟩:∃ k:Nat,c = k:=⟨c.toNat,by omega⟩
 have hk:k < 128:=by omega
 have:∀ k,k < 128 -> (0 <= Lib.indexByte strokes.data.toList k.toUInt8 ↔ k = 47 \/ k = 0):=by decide
 have h2:=this k hk
 rw [show ((k:Int).toNat) = k from rfl,h2]
 omega
theorem strokes_low (j:Nat) (b:UInt8) (h:strokes.data.toList[j]? = some b):b.toNat < 128:=by
 have:=List.mem_of_getElem? h
 have e:strokes.data.toList = [47,0]:=rfl
 rw [e] at this
 rcases List.mem_cons.1 this with rfl | h2
 ·decide
 ·rw [List.mem_singleton.1 h2];decide
theorem tiany_calls {s:ByteArray} (hs:s.size <= 14) (w:World) :
 Calls Tryz.prog 184 #[.string s,.string strokes] w fun e w'=>(∃ x:Int,e = .returned (.int .i64 x) /\ (0 <= x ↔ cleanT s = false)) /\ Fr Nob w w':=by
 by_cases h8:8 < s.size
 ·refine (Tryz.strings_IndexAny_long (fun w=>by rfl) s strokes w (by decide) h8 (by omega) (by decide) strokes_low).mono ?_
  rintro e w' ⟨rfl,rfl⟩
  exact ⟨⟨_,rfl,indexAny_iff _⟩,((Fr.refl _ _).alloc _).alloc _⟩
 ·have b0:strokes.size = 2:=rfl
  have b1:strokes.toList.isEmpty = false:=by kernel_rfl
  have hA:=Tryz.strings_shouldUseASCIISet s.size w
  rw [decide_eq_false (by omega)] at hA
  have HA:=hid hA
  have HS:=hid hs
  clear hA h8 hs
  go_enter Tryz.func184,Tryz.ntmps184
  go_wp2_with fail
  refine HA.out.mono ?_
  rintro e w1 ⟨rfl,rfl⟩
  go_wp2_with fail
  obtain ⟨b,hb⟩:∃ b,b = w1.heap.size:=⟨_,rfl⟩
  rw [<- hb]
  have HBS:=hid hb
  have h0:(w1.iter s 0).heap[b]? = some (.stringIter s 0):=by rw [hb];exact World.iter_heap _ _ _
  have f0:Fr Nob w1 (w1.iter s 0):=(Fr.refl _ _).alloc _
  obtain ⟨wz,hwz⟩:∃ wz,wz = w1.iter s 0:=⟨_,rfl⟩
  rw [<- hwz] at h0 f0 ⊢
  clear hwz hb HA
  go_loopw [9,10] (fun _ _ wr=>∃ i:Nat,i <= s.size /\ (∀ j,j < i -> byteAt s j ≠ 47 /\ byteAt s j ≠ 0) /\ wr.heap[b]? = some (.stringIter s i) /\ Fr Nob w1 wr) (fun _ _ wr=>s.size - wr.iterPos b)
  case atStart=>exact ⟨0,Nat.zero_le _,fun _ h=>absurd h (Nat.not_lt_zero _),h0,f0⟩
  case round =>
   obtain ⟨i,hi,hcl,hit,hfr⟩:=hrel
   clear h0 f0
   have hpos:wr.iterPos b = i:=by unfold World.iterPos;rw [hit]
   have HCL:=hid hcl
   have HFR:=hid hfr
   have HIT:=hid hit
   by_cases hlt:i < s.size
   ·have hnx:=fun ty=>next_any (P:=Tryz.prog) hit hlt ty
    obtain ⟨r,hr⟩:∃ r:Nat,r = (Utf8.decode s i).1:=⟨_,rfl⟩
    obtain ⟨k,hk⟩:∃ k,k = (Utf8.decode s i).2:=⟨_,rfl⟩
    rw [<- hr,<- hk] at hnx
    have HR:=hid hr
    have HK:=hid hk
    have hput:(wr.putObj b (.stringIter s (i + k))).heap[b]? = some (.stringIter s (i + k)):=World.putObj_heap_same (lt_heap hit)
    have hfp:Fr Nob w1 (wr.putObj b (.stringIter s (i + k))):=by
     refine Fr.trans' (T:=fun x=>x = b) hfr ((Fr.refl _ _).grown (grownBy_putObj' wr b _) (fun x e=>by cases e;exact .inl rfl)) (fun x hx hs=>?_)
     have hs:x = b:=hs
     rw [hs,HBS.out] at hx
     omega
    have hip:(wr.putObj b (.stringIter s (i + k))).iterPos b = i + k:=by unfold World.iterPos;rw [hput]
    obtain ⟨wn,hwn⟩:∃ wn,wn = wr.putObj b (.stringIter s (i + k)):=⟨_,rfl⟩
    rw [<- hwn] at hnx hput hfp hip
    have HP:=hid hput
    have HFP:=hid hfp
    have HIP:=hid hip
    by_cases hlow:(s[i]'hlt).toNat < 128
    ·have hd:=decode_ascii s i hlt hlow
     rw [hd] at hr hk
     replace hr:r = (s[i]'hlt).toNat:=hr
     replace hk:k = 1:=hk
     subst hk
     have hbt:byteAt s i = r:=by rw [byteAt_get hlt,hr]
     have hr8:r < 128:=by omega
     have hru:Calls Tryz.prog 208 #[.string strokes,.int .i32 r] wn fun e w'=>e = .returned (.int .i64 (Lib.indexByte strokes.data.toList ((r:Int).toNat.toUInt8))) /\ Fr Nob wn w':=(Tryz.strings_IndexRune_ascii strokes r wn (by omega) (by omega)).mono fun _ _ ⟨e1,e2⟩=>⟨e1,by rw [e2];exact Fr.refl _ _⟩
     have hix:=indexByte_two (c:=(r:Int)) (by omega) (by omega)
     obtain ⟨x,hx⟩:∃ x,x = Lib.indexByte strokes.data.toList ((r:Int).toNat.toUInt8):=⟨_,rfl⟩
     rw [<- hx] at hru hix
     have HRU:=hid hru
     have HBT:=hid hbt
     have HIX:=hid hix
     clear hcl hfr hit hr hput hfp hwn hd hx hbt hix hlow hr8 hip hru
     go_wp2_with fail
     refine HRU.out.mono ?_
     rintro e w3 ⟨rfl,hf3⟩
     have h3:w3.heap[b]? = some (.stringIter s (i + 1)):=by rw [hf3.block b (lt_heap HP.out) (fun h=>h)];exact HP.out
     have hip3:w3.iterPos b = i + 1:=by unfold World.iterPos;rw [h3]
     have HF3:=hid hf3
     have H3:=hid h3
     clear hf3 h3
     by_cases hx0:0 <= x
     ·go_wp2_with fail
      go_ret
      refine ⟨⟨_,rfl,?_⟩,HFP.out.trans HF3.out⟩
      have hbad:=HIX.out.1 hx0
      have hc:cleanT s = false:=by
       unfold cleanT
       rw [List.all_eq_false]
       refine ⟨s[i]'hlt,List.getElem_mem (l:=s.data.toList) hlt,?_⟩
       have hb:=HBT.out
       rw [byteAt_get hlt] at hb
       simp only [Bool.and_eq_true,bne_iff_ne,ne_eq]
       rintro ⟨q1,q2⟩
       rcases hbad with h | h
       ·exact q1 (UInt8.toNat_inj.1 (by rw [hb];show r = 47;omega))
       ·exact q2 (UInt8.toNat_inj.1 (by rw [hb];show r = 0;omega))
      rw [hc]
      exact ⟨fun _=>rfl,fun _=>by omega⟩
     ·have HX0:=hid hx0
      go_wp2_with fail
      go_roundw
      case rel =>
       refine ⟨i + 1,by omega,fun j hj=>?_,H3.out,HFP.out.trans HF3.out⟩
       by_cases hji:j < i
       ·exact HCL.out j hji
       ·obtain rfl:j = i:=by omega
        rw [HBT.out]
        have:=fun h=>(by have h2:=HIX.out.2 h;have h3:=HX0.out;omega:False)
        constructor
        ·intro h;exact this (.inl (by omega))
        ·intro h;exact this (.inr (by omega))
      case measure=>rw [hip3,hpos];omega
    ·have hd:=dec_high hlt (by omega)
     rw [<- hr,<- hk] at hd
     obtain ⟨d1,d2,d3,d4,d5⟩:=hd
     have HD5:=hid d5
     have HRU:=hid (tirune_calls (r:=(r:Int)) (by omega) (by omega) wn)
     clear hcl hfr hit hr hk hput hfp hip hwn d5
     go_wp2_with fail
     refine HRU.out.mono ?_
     rintro e w3 ⟨rfl,hf3⟩
     have h3:w3.heap[b]? = some (.stringIter s (i + k)):=by rw [hf3.block b (lt_heap HP.out) (fun h=>h)];exact HP.out
     have hip3:w3.iterPos b = i + k:=by unfold World.iterPos;rw [h3]
     have HF3:=hid hf3
     have H3:=hid h3
     clear hf3 h3
     go_wp2_with fail
     go_roundw
     case rel =>
      refine ⟨i + k,d4,fun j hj=>?_,H3.out,HFP.out.trans HF3.out⟩
      by_cases hji:j < i
      ·exact HCL.out j hji
      ·have:=HD5.out j (by omega) hj
       omega
     case measure=>rw [hip3,hpos];omega
   ·have hnx:=fun ty=>next_end (P:=Tryz.prog) hit hlt ty
    have hin:i = s.size:=by omega
    clear hcl hfr hit
    go_wp2_with fail
    go_ret
    refine ⟨⟨_,rfl,?_⟩,HFR.out⟩
    have hc:cleanT s = true:=by
     unfold cleanT
     rw [List.all_eq_true]
     intro x hx
     obtain ⟨j,hj,rfl⟩:=List.getElem_of_mem hx
     have hj':j < s.size:=hj
     obtain ⟨c1,c2⟩:=HCL.out j (by omega)
     rw [byteAt_get hj'] at c1 c2
     simp only [Bool.and_eq_true,bne_iff_ne,ne_eq]
     refine ⟨fun e=>c1 ?_,fun e=>c2 ?_⟩
     ·have:s[j]'hj' = 47:=e
      rw [this];rfl
     ·have:s[j]'hj' = 0:=e
      rw [this];rfl
    rw [hc]
    decide
theorem tcany_calls {s:ByteArray} (hs:s.size <= 14) (w:World) :
 Calls Tryz.prog 153 #[.string s,.string strokes] w fun e w'=>e = .returned (.bool (!cleanT s)) /\ Fr Nob w w':=by
 have HA:=hid (tiany_calls hs w)
 clear hs
 go_enter Tryz.func153,Tryz.ntmps153
 go_wp2_with fail
 refine HA.out.mono ?_
 rintro e w1 ⟨⟨x,rfl,hx⟩,hf⟩
 have HX:=hid hx
 have HF:=hid hf
 clear hx hf HA
 go_wp2_with fail
 go_ret
 refine ⟨?_,HF.out⟩
 have:decide (0 <= x) = !cleanT s:=by
  cases hc:cleanT s
  ·exact decide_eq_true (HX.out.2 hc)
  ·exact decide_eq_false fun h=>by rw [HX.out.1 h] at hc;cases hc
 show Ending.returned (.bool (decide (0 <= x))) = _
 rw [this]
theorem setT_at (T:Tr) (n:Nat) (x:TN):setT T n x n = x:=if_pos rfl
theorem setT_ne (T:Tr) {n j:Nat} (x:TN) (h:j ≠ n):setT T n x j = T j:=if_neg h
theorem setT_setT (T:Tr) (n:Nat) (x y:TN):setT (setT T n x) n y = setT T n y:=by
 funext j;unfold setT;split <;> rfl
def setU (us:Nat -> Value) (n:Nat) (u:Value):Nat -> Value:=fun j=>if j = n then u else us j
theorem setU_same (us:Nat -> Value) (n:Nat) (u:Value):setU us n u n = u:=if_pos rfl
theorem setU_ne (us:Nat -> Value) {n j:Nat} (u:Value) (h:j ≠ n):setU us n u j = us j:=if_neg h
theorem setU_id (us:Nat -> Value) (n:Nat):setU us n (us n) = us:=by
 funext j;unfold setU;split
 ·next h=>rw [h]
 ·rfl
def rowsO (T:Tr) (us:Nat -> Value) (n:Nat):Nat -> Asr
 | 0=>Emp
 | k + 1=>if k = n then rowsO T us n k else Star (rowD (T k) (us k)) (rowsO T us n k)
theorem loc_rowsO (T:Tr) (us:Nat -> Value) (n:Nat):∀ k,Loc (rowsO T us n k)
 | 0=>loc_emp
 | k + 1=>by
  unfold rowsO
  split
  ·exact loc_rowsO T us n k
  ·exact loc_star (loc_row _ _ _ _ _) (loc_rowsO T us n k)
theorem rowsO_all (T:Tr) (us:Nat -> Value) (n:Nat):∀ k,k <= n -> rowsO T us n k = rowsD T us k
 | 0,_=>rfl
 | k + 1,h=>by
  unfold rowsO rowsD
  rw [if_neg (by omega),rowsO_all T us n k (by omega)]
theorem rowsO_congr {T U:Tr} {us vs:Nat -> Value} {n:Nat}:∀ k,(∀ i,i < k -> i ≠ n -> T i = U i /\ us i = vs i) -> rowsO T us n k = rowsO U vs n k
 | 0,_=>rfl
 | k + 1,h=>by
  unfold rowsO
  rw [rowsO_congr k fun i hi=>h i (by omega)]
  split
  ·rfl
  ·next hk=>rw [(h k (by omega) hk).1,(h k (by omega) hk).2]
theorem rows_out {T:Tr} {us:Nat -> Value} {n:Nat} {w:World}:∀ (k:Nat) {S:Nat -> Prop},n < k -> rowsD T us k w S -> Star (rowD (T n) (us n)) (rowsO T us n k) w S
 | 0,_,h,_=>by omega
 | k + 1,S,hn,h=>by
  unfold rowsO
  by_cases hk:k = n
  ·subst hk
   rw [if_pos rfl,rowsO_all T us k k (Nat.le_refl _)]
   exact h
  ·rw [if_neg hk]
   exact star_flip (star_right h fun _ h=>rows_out k (by omega) h)
theorem rows_in {T:Tr} {us:Nat -> Value} {n:Nat} {w:World}:∀ (k:Nat) {S:Nat -> Prop},n < k -> Star (rowD (T n) (us n)) (rowsO T us n k) w S -> rowsD T us k w S
 | 0,_,h,_=>by omega
 | k + 1,S,hn,h=>by
  unfold rowsO at h
  by_cases hk:k = n
  ·subst hk
   rw [if_pos rfl,rowsO_all T us k k (Nat.le_refl _)] at h
   exact h
  ·rw [if_neg hk] at h
   exact star_right (star_flip h) fun _ h=>rows_in k (by omega) h
theorem tnsL_set {T:Tr} {us:Nat -> Value} {n j:Nat} (hn:n < 32) (hj:j < 6) {v u:Value} {x:TN} (hd:tnL x u = (tnL (T n) (us n)).set j v) :
 (tnsL T us 32).set (n * 6 + j) v = tnsL (setT T n x) (setU us n u) 32:=by
 have l1:=tnsL_length T us 32
 have l2:=tnsL_length (setT T n x) (setU us n u) 32
 have l3:(tnL (T n) (us n)).length = 6:=rfl
 apply List.ext_getElem?
 intro p
 by_cases hp:p < 192
 ·have e:p = p / 6 * 6 + p % 6:=by omega
  have hi:p / 6 < 32:=by omega
  have hl:p % 6 < 6:=by omega
  rw [List.getElem?_set]
  by_cases h1:n * 6 + j = p
  ·rw [if_pos h1,if_pos (by omega),<- h1,tnsL_get _ _ hj 32 hn,setT_at,setU_same,hd,List.getElem?_set,if_pos rfl,if_pos (by omega)]
  ·rw [if_neg h1,e,tnsL_get _ _ hl 32 hi,tnsL_get _ _ hl 32 hi]
   by_cases h2:p / 6 = n
   ·rw [h2,setT_at,setU_same,hd,List.getElem?_set,if_neg (by omega)]
   ·rw [setT_ne _ _ h2,setU_ne _ _ h2]
 ·rw [List.getElem?_eq_none (by rw [List.length_set];omega),List.getElem?_eq_none (by omega)]
theorem nil_row (x:TN) (hx:x.slots = []) (w:World):rowD x (.slice none 0 0) w Nob:=by
 unfold rowD
 rw [hx]
 exact ⟨World.ownsRow_nil _ _ _ _,fun k hk=>by cases hk⟩
section
variable {S0:Nat -> Prop} {w0 w w':World} {r g c m:Nat} {sp:List Value} {T:Tr} {us:Nat -> Value} {B R:Asr}
theorem doc_open (h:Lv S0 w0 (Star (docA r g c sp m T us) B) w) {n:Nat} (hn:n < 32) :
 Lv S0 w0 (Star (rowD (T n) (us n)) (Star (blkA g tDNode (tnsL T us 32 ++ sp)) (Star (blkA r tDTree [.int .i64 m,.slice (some ⟨g,0,none⟩) 32 c]) (Star (rowsO T us n 32) B)))) w :=
 h.map fun _ h=>star_right (star_flip (star_right (star_right (star_assoc h) fun _ h=>star_right (star_assoc h) fun _ h=>star_assoc (star_left h fun _ h=>rows_out 32 hn h)) fun _ h=>star_flip h)) fun _ h=>star_flip h
theorem doc_shut {T':Tr} {us':Nat -> Value} {n:Nat} (hn:n < 32) (ho:∀ i,i < 32 -> i ≠ n -> T i = T' i /\ us i = us' i)
 (h:Lv S0 w0 (Star (rowD (T' n) (us' n)) (Star (blkA g tDNode (tnsL T' us' 32 ++ sp)) (Star (blkA r tDTree [.int .i64 m,.slice (some ⟨g,0,none⟩) 32 c]) (Star (rowsO T us n 32) B)))) w) :
 Lv S0 w0 (Star (docA r g c sp m T' us') B) w:=by
 rw [rowsO_congr 32 ho] at h
 refine h.map fun _ h=>?_
 have h1:=star_right h fun _ h=>star_flip h
 have h2:=star_flip h1
 have h3:=star_right h2 fun _ h=>star_flip h
 exact star_assoc' (star_right h3 fun _ h=>star_assoc' (star_right h fun _ h=>star_left (star_assoc' h) fun _ h=>rows_in 32 hn h))
theorem doc_turn (h:Lv S0 w0 (Star (docA r g c sp m T us) B) w) (hB:Loc B) {n j:Nat} (hn:n < 32) (hj:j < 6) {v:Value} {x:TN} (hs:x.slots = (T n).slots)
 (hd:tnL x (us n) = (tnL (T n) (us n)).set j v):Lv S0 w0 (Star (docA r g c sp m (setT T n x) us) B) (w.setCell ⟨g,n * 6 + j,none⟩ v):=by
 have h1:=(doc_open h hn).map fun _ h=>star_flip h
 have h2:=h1.turn (loc_star (loc_row _ _ _ _ _) (loc_star (loc_blk _ _ _) (loc_star (loc_rowsO _ _ _ _) hB))) (turn_blk (n * 6 + j) v)
 rw [List.set_append_left _ _ (by rw [tnsL_length];omega),tnsL_set hn hj hd,setU_id] at h2
 refine doc_shut (T:=T) (us:=us) hn (fun i _ hi=>⟨(setT_ne T x hi).symm,rfl⟩) ?_
 rw [setT_at,show rowD x (us n) = rowD (T n) (us n) by unfold rowD;rw [hs]]
 exact h2.map fun _ h=>star_flip h
theorem doc_bare (h:Lv S0 w0 (Star (docA r g c sp m T us) B) w) (hB:Loc B) {n:Nat} (hn:n < 32) :
 Lv S0 w0 (Star (docA r g c sp m (setT T n { T n with slots:=[] }) (setU us n (.slice none 0 0))) B) (w.setCell ⟨g,n * 6 + 3,none⟩ (.slice none 0 0)):=by
 have h1:=(doc_open h hn).map fun _ h=>star_flip h
 have h2:=h1.turn (loc_star (loc_row _ _ _ _ _) (loc_star (loc_blk _ _ _) (loc_star (loc_rowsO _ _ _ _) hB))) (turn_blk (n * 6 + 3) (.slice none 0 0))
 rw [List.set_append_left _ _ (by rw [tnsL_length];omega),tnsL_set (x:={ T n with slots:=[] }) (u:=.slice none 0 0) hn (by omega) rfl] at h2
 refine doc_shut (T:=T) (us:=us) hn (fun i _ hi=>⟨(setT_ne T _ hi).symm,(setU_ne us _ hi).symm⟩) ?_
 rw [setT_at,setU_same]
 refine h2.map fun U h=>?_
 have h3:=star_less h
 exact ⟨Nob,U,nil_row _ rfl _,h3,fun _ h=>h.elim,fun _ h=>h.elim,fun _ h=>h⟩
theorem doc_node (h:Lv S0 w0 (Star (docA r g c sp m T us) B) w) (hB:Loc B) {n:Nat} (hn:n < 32) (x:TN) (hx:x.slots = []) :
 Lv S0 w0 (Star (docA r g c sp m (setT T n x) (setU us n (.slice none 0 0))) B) ((((((w.setCell ⟨g,n * 6,none⟩ (.int .i64 x.kind)).setCell ⟨g,n * 6 + 1,none⟩ (.int .i64 x.links)).setCell ⟨g,n * 6 + 2,none⟩ (.string ⟨x.data.toArray⟩)).setCell
  ⟨g,n * 6 + 3,none⟩ (.slice none 0 0)).setCell ⟨g,n * 6 + 4,none⟩ (.int .i64 x.up)).setCell ⟨g,n * 6 + 5,none⟩ (.int .i64 x.held)):=by
 have h1:=doc_turn (j:=0) (x:={ T n with kind:=x.kind }) (v:=.int .i64 x.kind) h hB hn (by omega) rfl rfl
 have h2:=doc_turn (j:=1) (x:={ T n with kind:=x.kind,links:=x.links }) (v:=.int .i64 x.links) h1 hB hn (by omega) (by rw [setT_at]) (by rw [setT_at];rfl)
 have h3:=doc_turn (j:=2) (x:={ T n with kind:=x.kind,links:=x.links,data:=x.data }) (v:=.string ⟨x.data.toArray⟩) h2 hB hn (by omega) (by rw [setT_at]) (by rw [setT_at];rfl)
 have h4:=doc_bare h3 hB hn
 have h5:=doc_turn (j:=4) (x:={ T n with kind:=x.kind,links:=x.links,data:=x.data,slots:=[],up:=x.up }) (v:=.int .i64 x.up) h4 hB hn (by omega) (by rw [setT_at,setT_at]) (by rw [setT_at,setT_at];rfl)
 have h6:=doc_turn (j:=5) (x:=x) (v:=.int .i64 x.held) h5 hB hn (by omega) (by rw [setT_at];exact hx) (by rw [setT_at];rfl)
 rw [setT_setT,setT_setT,setT_setT,setT_setT,setT_setT] at h6
 exact h6
end
theorem Tryz.dnodeInfo:(Tryz.prog.info? tDNode).map (fun i=>(i.zero,i.size,i.bytes)) = some (some (.agg #[.int .i64 0,.int .i64 0,.string ⟨#[]⟩,.slice none 0 0,.int .i64 0,.int .i64 0]),6,72):=by kernel_rfl
def freeL:List Value:=tnsL (fun _=>TN.free) (fun _=>.slice none 0 0) 32
theorem made_dnodes:madeCells #[.int .i64 0,.int .i64 0,.string ⟨#[]⟩,.slice none 0 0,.int .i64 0,.int .i64 0] 192 = freeL.toArray:=by kernel_rfl
theorem wpList_make_dnodes {w:World} {ops:Array Oper} {rest:List Oper} {o:Oper} {a:Act} {Q:Exit -> Act -> World -> Prop} (hg:o.guard = none) {l c:Operand} (hop:o.op = Op.makeSlice 136 l c)
 (hl:a.eval l = .int .i64 32) (hc:a.eval c = .int .i64 32)
 (hK:∀ w2,Blk w2 w.heap.size tDNode freeL -> Fr Nob w w2 -> w2.heap.size = w.heap.size + 1 -> wpList Tryz.prog ops Q rest (a.put o.dst (.slice (some ⟨w.heap.size,0,none⟩) 32 32)) w2) :
 wpList Tryz.prog ops Q (o :: rest) a w:=by
 refine wpList_plain hg fun K hK'=>?_
 obtain ⟨i,hi,hzz⟩:=Option.map_eq_some_iff.1 Tryz.dnodeInfo
 simp only [Prod.mk.injEq] at hzz
 obtain ⟨hz,hs,hb⟩:=hzz
 have hr:=run_make (P:=Tryz.prog) w 136 tDNode i _ Tryz.underlying136 hi hz .i64 .i64 32 32 (by decide) (by decide) (by rw [hb];decide) (by decide)
 rw [hs,show (32:Int).toNat = 32 from rfl,show (32 * 6:Nat) = 192 from rfl,
  show (Value.agg #[.int .i64 0,.int .i64 0,.string ⟨#[]⟩,.slice none 0 0,.int .i64 0,.int .i64 0]).cells = #[.int .i64 0,.int .i64 0,.string ⟨#[]⟩,.slice none 0 0,.int .i64 0,.int .i64 0] from rfl,made_dnodes] at hr
 have hK:=hK _ (Blk.new w tDNode freeL) ((Fr.refl _ w).alloc _) (by simp)
 generalize freeL.toArray = NN at hr hK
 unfold Oper.wp
 simp [execOp,hop,hl,hc,hr,Result.andThen]
 exact hK' _ _ hK
theorem rows_nil (w:World):∀ k,rowsD (fun _=>TN.free) (fun _=>.slice none 0 0) k w Nob
 | 0=>trivial
 | k + 1=>⟨Nob,Nob,nil_row _ rfl w,rows_nil w k,fun _ h=>h.elim,fun _ h=>h,fun _ h=>h⟩
theorem star_add {A B C:Asr} {w:World} {U:Nat -> Prop} (h:Star A B w U) (hc:C w Nob):Star A (Star C B) w U:=star_right h fun S hb=>⟨Nob,S,hc,hb,fun _ h=>h.elim,fun _ h=>h.elim,fun _ h=>h⟩
section
variable {S0:Nat -> Prop} {w0 w:World} {B R:Asr}
theorem dnew_calls (hL:Lv S0 w0 B w) (hB:Loc B) (m:Nat):Calls Tryz.prog 79 #[.int .i64 m] w fun e w'=>∃ r,e = .returned (.pointer (some ⟨r,0,none⟩)) /\ Lv S0 w0 (Star (docX r m freshT) B) w':=by
 have HAF:Hid (∀ w2,Blk w2 w.heap.size tDNode freeL -> Fr Nob w w2 -> w2.heap.size = w.heap.size + 1 -> Lv S0 w0 (Star (docA w2.heap.size w.heap.size 32 [] m (fun _=>TN.free) (fun _=>.slice none 0 0)) B) (w2.alloc (.cells ([Value.int .i64 m,.slice (some ⟨w.heap.size,0,none⟩) 32 32]).toArray tDTree))):=hid fun w2 hb hf hs=>by
  have L1:=hL.new (B:=blkA w.heap.size tDNode freeL) hB hf ⟨hb,.inr ⟨Nat.le_refl _,by omega⟩⟩
  have L2:=L1.box (loc_star (loc_blk _ _ _) hB) tDTree [.int .i64 m,.slice (some ⟨w.heap.size,0,none⟩) 32 32]
  exact (L2.map fun _ h=>star_right h fun _ h=>star_assoc' (star_add h (rows_nil _ 32))).assoc'
 have HB:=hid hB
 clear hL hB
 go_enter Tryz.func79,Tryz.ntmps79
 go_wp2_with (with_reducible show wpList _ _ _ _ _ _;refine wpList_make_dnodes rfl rfl rfl rfl ?_;intro w2 hb hf hs;have HA:=hid (HAF.out w2 hb hf hs);have hlt:w.heap.size < w2.heap.size + 1:=(by omega);have hb2:=hb.alloc (.cells #[.int .i64 m,.slice (some ⟨w.heap.size,0,none⟩) 32 32] 138);have z0:=hb2.cell (j:=0) rfl;have z1:=hb2.cell (j:=1) rfl;have z2:=hb2.cell (j:=2) rfl;have z3:=hb2.cell (j:=3) rfl;have z4:=hb2.cell (j:=4) rfl;have z5:=hb2.cell (j:=5) rfl;have f0:=hb2.free 0;have f1:=hb2.free 1;have f2:=hb2.free 2;have f3:=hb2.free 3;have f4:=hb2.free 4;have f5:=hb2.free 5;clear hb2;clear hb hf hs HAF)
 go_ret
 have L4:=doc_node HA.out HB.out (n:=0) (by omega) rootT rfl
 exact ⟨_,rfl,docX_shut L4⟩
end
end Go.Proofs.YtngalllaiphkhaaGreatDoor
