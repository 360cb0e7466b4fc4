import Derived.Test.YtngalllaiphkhaaGreatDoorYME
import Derived.Lib.EndianBits
import Derived.Maps.OwnSet
import Derived.Maps.OwnOps
import Derived.Lib.SlKeysI
namespace Go.Proofs.YtngalllaiphkhaaGreatDoor
open Go.RowKit
open Go.Lib (hid)
set_option maxRecDepth 100000
set_option maxHeartbeats 16000000
def leNat:List UInt8 -> Nat
 | []=>0
 | b :: l=>b.toNat + 256 * leNat l
theorem leNat_snoc (l:List UInt8) (b:UInt8):leNat (l ++ [b]) = leNat l + b.toNat * 256 ^ l.length:=by
 induction l with
 | nil=>simp [leNat]
 | cons c l ih =>
  simp only [List.cons_append,leNat,ih,List.length_cons,Nat.pow_succ]
  rw [Nat.mul_add,Nat.add_assoc]
  congr 1
  congr 1
  rw [<- Nat.mul_assoc,Nat.mul_comm 256,Nat.mul_assoc,Nat.mul_comm 256]
theorem leNat_lt (l:List UInt8):leNat l < 256 ^ l.length:=by
 induction l with
 | nil=>simp [leNat]
 | cons c l ih =>
  have:=c.toNat_lt
  simp only [leNat,List.length_cons,Nat.pow_succ]
  omega
theorem le_or {l:List UInt8} {j:Nat} (b:UInt8) (hl:l.length = j) (hj:j < 8) :
 bits BinOp.or IntKind.u64 (leNat l:Int) (IntKind.u64.wrap (IntKind.u64.wrap (b.toNat:Int) * 2 ^ (8 * j))) = (leNat (l ++ [b]):Int):=by
 have hb:=b.toNat_lt
 have h1:=leNat_lt l
 have hp:(256:Nat) ^ j = 2 ^ (8 * j):=by rw [Nat.pow_mul]
 have hp2:2 ^ (8 * j) * 256 <= 18446744073709551616:=by
  have:2 ^ (8 * j) * 256 = 2 ^ (8 * j + 8):=by rw [Nat.pow_add]
  rw [this]
  exact Nat.pow_le_pow_right (by decide) (show 8 * j + 8 <= 64 by omega)
 rw [leNat_snoc,hl,hp]
 rw [hl,hp] at h1
 generalize hP:2 ^ (8 * j) = P at *
 have hP0:0 < P:=by rw [<- hP];exact Nat.two_pow_pos _
 have hbP:b.toNat * P + P <= 18446744073709551616:=by
  have:b.toNat * P + P = (b.toNat + 1) * P:=by rw [Nat.add_mul,Nat.one_mul]
  rw [this]
  have h3:=Nat.mul_le_mul_right P (show b.toNat + 1 <= 256 by omega)
  omega
 have e1:IntKind.u64.wrap (b.toNat:Int) = (b.toNat:Int):=wraps_u64 _ (by omega) (by omega)
 have e2:(b.toNat:Int) * (2:Int) ^ (8 * j) = ((b.toNat * P:Nat):Int):=by rw [<- hP];simp
 rw [e1,e2,wraps_u64 _ (by omega) (by omega)]
 rw [bits_join_low .u64 64 (by decide) wraps_u64 (8 * j) _ _ (by omega) (by rw [<- hP] at h1;exact_mod_cast h1) (by omega) (by omega) ?_ (by omega)]
 ·simp
 ·have e3:((2:Int) ^ (8 * j)) = ((P:Nat):Int):=by rw [<- hP];simp
  rw [e3]
  exact_mod_cast Nat.mul_mod_left _ _
theorem bytes_len (s:ByteArray):s.data.toList.length = s.size:=Array.length_toList
theorem byte_at {s:ByteArray} {j:Nat} (h:j < s.size):s.data.toList[j]? = some s[j]:=by
 rw [Array.getElem?_toList]
 exact Array.getElem?_eq_getElem h
theorem wof_calls (s:ByteArray) (w:World) (hs:s.size <= 8) :
 Calls Tryz.prog 116 #[.string s] w fun e w'=>e = .returned (.int .u64 (leNat s.data.toList)) /\ Fr Nob w w':=by
 have hmin:min (s.size:Int) 8 = s.size:=by omega
 go_enter Tryz.func116,Tryz.ntmps116
 go_wp2_with fail
 go_loop [3,8] (fun v i=>∃ j:Nat,j <= s.size /\ i = .int .i64 j /\ v = .int .u64 (leNat (s.data.toList.take j))) (fun _ i=>s.size - (intOf i).toNat)
 case atStart=>exact ⟨0,Nat.zero_le _,rfl,rfl⟩
 case round =>
  obtain ⟨j,hj,rfl,rfl⟩:=hrel
  by_cases hlt:j < s.size
  ·have hor:=le_or (l:=s.data.toList.take j) (j:=j) s[j] (by rw [List.length_take,bytes_len];omega) (by omega)
   have hsn:s.data.toList.take j ++ [s[j]] = s.data.toList.take (j + 1):=by rw [List.take_add_one,byte_at hlt];rfl
   rw [hsn] at hor
   have HO:=hid hor
   clear hor hsn
   go_wp2
   go_round
   case rel=>exact ⟨j + 1,hlt,by go_num,by rw [HO.out]⟩
   case measure=>simp [intOf];omega
  ·obtain rfl:j = s.size:=by omega
   have htk:s.data.toList.take s.size = s.data.toList:=List.take_of_length_le (by rw [bytes_len];exact Nat.le_refl _)
   rw [htk]
   go_wp2
   go_ret
   exact ⟨rfl,Fr.refl _ _⟩
def leBytes (v:Nat):Nat -> List UInt8
 | 0=>[]
 | n + 1=>UInt8.ofNat (v % 256) :: leBytes (v / 256) n
theorem leBytes_length (v n:Nat):(leBytes v n).length = n:=by
 induction n generalizing v with
 | zero=>rfl
 | succ n ih=>simp [leBytes,ih]
theorem leBytes_snoc (v n:Nat):leBytes v (n + 1) = leBytes v n ++ [UInt8.ofNat (v / 256 ^ n % 256)]:=by
 induction n generalizing v with
 | zero=>simp [leBytes]
 | succ n ih =>
  show UInt8.ofNat (v % 256) :: leBytes (v / 256) (n + 1) = _
  rw [ih]
  show _ = UInt8.ofNat (v % 256) :: (leBytes (v / 256) n ++ _)
  rw [Nat.div_div_eq_div_mul,Nat.pow_succ,Nat.mul_comm 256]
def byteV (b:UInt8):Value:=.int .u8 (b.toNat:Int)
theorem map_bytes (l:List UInt8):l.map byteV = (l.map fun b=>(b.toNat:Int)).map (Value.int .u8):=by rw [List.map_map];rfl
theorem strOf_bytes (l:List UInt8):strOf (l.map fun b=>(b.toNat:Int)) = ⟨l.toArray⟩:=by
 have key:∀ (l:List UInt8) (r:ByteArray),(l.map fun b=>(b.toNat:Int)).foldl (fun r n=>r.push (UInt8.ofNat n.toNat)) r = ⟨r.data ++ l.toArray⟩:=by
  intro l
  induction l with
  | nil=>intro r;simp
  | cons b l ih =>
   intro r
   rw [List.map_cons,List.foldl_cons,ih]
   show (⟨(r.data.push _) ++ _⟩:ByteArray) = _
   rw [Int.toNat_natCast,UInt8.ofNat_toNat]
   congr 1
   apply Array.ext'
   simp
 unfold strOf
 rw [key]
 show (⟨#[] ++ l.toArray⟩:ByteArray) = _
 simp
theorem Tryz.rowU8:RowT Tryz.prog 116 5 1 1:=by
 obtain ⟨i0,hi,hz0,hz1,hz2⟩:=info_parts Tryz.infoU8
 exact ⟨⟨i0,_,Tryz.underlying116,hi,hz0,hz1,hz2,rfl⟩,by decide,by decide⟩
theorem wbytes_calls (v:Nat) (n:Nat) (w:World) (h1:1 <= n) (hn:n <= 8) (hv:v < 18446744073709551616) :
 Calls Tryz.prog 103 #[.int .u64 v,.int .i64 n] w fun e w'=>e = .returned (.string ⟨(leBytes v n).toArray⟩) /\ Fr Nob w w':=by
 have HV:=hid hv
 have hmax:max (n:Int) 0 = n:=by omega
 have hmin:min (n:Int) 8 = n:=by omega
 clear hv
 go_enter Tryz.func103,Tryz.ntmps103
 go_wp2_with fail
 go_loopw [0,5,9] (fun x b i wr=>∃ j:Nat,j <= n /\ i = .int .i64 j /\ x = .int .u64 ((v / 256 ^ j:Nat):Int) /\ ∃ ao c,b = .slice ao j c /\ wr.ownsRow 0 5 1 (.slice ao j c) j ((leBytes v j).map byteV) /\ (∀ k,(Value.slice ao j c).ownBlock = some k -> w.heap.size <= k) /\ Fr Nob w wr) (fun _ _ i _=>n - (intOf i).toNat)
 case atStart=>exact ⟨0,Nat.zero_le _,rfl,by simp,none,0,rfl,World.ownsRow_nil _ _ _ _,fun k hk=>(by cases hk),Fr.refl _ _⟩
 case round =>
  obtain ⟨j,hj,rfl,rfl,ao,c,rfl,hown,hlt0,hf⟩:=hrel
  have HO:=hid hown
  have HL:=hid hlt0
  have HF:=hid hf
  clear hown hlt0 hf
  by_cases hlt:j < n
  ·go_wp2_with (at_builtin;refine wpList_append_mine rfl (ho:=rfl) (s:=.tmp 11) (x:=.tmp 14) Tryz.rowU8 rfl (HO.out.alloc _) rfl (srcs_one wr _ _ 1 rfl) (by omega) ?_;intro v' w3 hown3 hf3 hv3 _;obtain ⟨g',cap',rfl⟩:=row_succ hown3)
   go_roundw
   case rel =>
    refine ⟨j + 1,by omega,by go_num,?_,_,_,rfl,?_,?_,?_⟩
    ·rw [Nat.pow_succ,<- Nat.div_div_eq_div_mul];simp
    ·rw [leBytes_snoc,List.map_append,List.map_cons,List.map_nil]
     have e:byteV (UInt8.ofNat (v / 256 ^ j % 256)) = .int .u8 (((v / 256 ^ j:Nat):Int) % 256):=by
      unfold byteV
      rw [UInt8.toNat_ofNat']
      congr 1
      omega
     rw [e]
     simpa using hown3
    ·intro k hk
     rcases hv3 k hk with h | h
     ·exact HL.out k h
     ·have:=HF.out.size
      simp at h
      omega
    ·exact ((HF.out.alloc _).trans' hf3 (fun i hi e=>by have:=HL.out i e;omega))
   case measure=>simp [intOf];omega
  ·obtain rfl:j = n:=by omega
   obtain ⟨g,c',hgc⟩:∃ g cap,Value.slice ao j c = .slice (some ⟨g,0,none⟩) j cap:=(row_form HO.out).elim (fun h=>by have:=h.2;omega) id
   simp only [Value.slice.injEq,true_and] at hgc
   obtain ⟨rfl,rfl⟩:=hgc
   have hc:=HO.out.cells (g:=g) rfl
   rw [map_bytes] at hc
   have HC:=hid hc
   have hlen:((leBytes v j).map fun b=>(b.toNat:Int)).length = j:=by rw [List.length_map,leBytes_length]
   clear hc
   go_wp2_with (with_reducible show wpList _ _ _ _ _ _;refine wpList_bytes_string (x:=.tmp 19) rfl rfl Tryz.underlying116 Tryz.underlying5 Tryz.underlying9 rfl hlen HC.out ?_;rw [strOf_bytes])
   go_ret
   exact ⟨rfl,HF.out⟩
abbrev tBld:Nat:=176
abbrev tU8:Nat:=5
theorem Tryz.sizeBld:(Tryz.prog.info? tBld).map (·.size) = some 2:=by kernel_rfl
theorem Tryz.liesBld:liesAt Tryz.prog Tryz.prog.depth tBld (2 / Tryz.prog.cellsOf tBld) 0 tBld 1 = true:=by kernel_rfl
abbrev IsBld (B b:Nat) (l:List UInt8) (w:World):Prop:=Lib.IsBuilder tBld tU8 B b (Lib.byteCells l) w
theorem bld_check {B b:Nat} {bs:List Value} {w:World} (h:Lib.IsBuilder tBld tU8 B b bs w) :
 Calls Tryz.prog 160 #[.pointer (some ⟨b,0,none⟩)] w fun e w'=>e = .returned (.tuple #[]) /\ Lib.BuilderAt tBld tU8 B b (.pointer (some ⟨b,0,none⟩)) bs w' /\ Below B w w':=by
 obtain ⟨j,hj,hjs⟩:=Option.map_eq_some_iff.1 Tryz.sizeBld
 rcases h with h | h
 ·have h0:=h.cell0
  have hsh:=h.shape
  have hfz:=h.frozen0
  have H:Hid (Lib.BuilderAt tBld tU8 B b (.pointer none) bs w):=h
  clear h
  go_enter Tryz.func160,Tryz.ntmps160
  go_wp2
  rw [Lib.run_to_unsafe w ⟨b,0,none⟩ Tryz.underlying174 Tryz.underlying259 hj (by rw [hjs];decide) hsh (Nat.zero_lt_succ 1)]
  simp only [Result.andThen]
  rw [Oper.upon_value]
  go_wp2
  rw [run_callFunc_extern Tryz.func189 (by kernel_rfl) (by kernel_rfl) (by kernel_rfl) (e:=Extern.AbiNoEscape.same) (by kernel_rfl)]
  rw [Lib.run_noEscape]
  simp only [Result.andThen]
  rw [Oper.upon_value]
  go_wp2
  rw [Lib.run_from_unsafe w ⟨b,0,none⟩ Tryz.underlying259 Tryz.underlying174 hj hsh Tryz.liesBld]
  simp only [Result.andThen]
  rw [Oper.upon_value]
  go_wp2
  go_end0
  exact ⟨rfl,H.out.used _,(Below.refl B w).setCell (p:=⟨b,0,none⟩) H.out.1 _⟩
 ·have h0:=h.cell0
  have H:Hid (Lib.BuilderAt tBld tU8 B b (.pointer (some ⟨b,0,none⟩)) bs w):=h
  clear h
  go_enter Tryz.func160,Tryz.ntmps160
  go_wp2
  rw [Lib.run_neq_ptr_same w _ Tryz.underlying174 hj]
  go_wp2
  go_end0
  exact ⟨rfl,H.out,Below.refl B _⟩
theorem bld_put {B b:Nat} {v v':Value} {bs bs':List Value} {w1 w2:World} (hB:B <= b) (hbk:w1.heap[b]? = some (.cells #[.pointer (some ⟨b,0,none⟩),v] tBld (0,0))) (hne:v.ownBlock ≠ some b)
 (hown:w1.ownsRow B tU8 1 v bs.length bs) (hown':w2.ownsRow B tU8 1 v' bs'.length bs') (hg:w1.grownBy w2 v.ownBlock) :
 Lib.BuilderAt tBld tU8 B b (.pointer (some ⟨b,0,none⟩)) bs' (w2.setCell ⟨b,1,none⟩ v') /\ (B <= w1.heap.size -> Below B w1 (w2.setCell ⟨b,1,none⟩ v')) /\
  w2.cell? ⟨b,1,none⟩ = some v /\ w2.frozen? ⟨b,1,none⟩ = false:=by
 have hb2:w2.heap[b]? = some (.cells #[.pointer (some ⟨b,0,none⟩),v] tBld (0,0)):=by
  rw [hg.block b (lt_of_block hbk) (fun e=>hne e.symm)]
  exact hbk
 refine ⟨Lib.BuilderAt.put hB hb2 hown' (by decide),fun hs=>?_,by rw [Lib.cell_of_heap hb2];rfl,Lib.frozen_of_heap hb2 1⟩
 exact ((Below.refl B w1).grown hg hs (fun k hk=>(hown.lt k hk).1)).setCell (p:=⟨b,1,none⟩) hB _
theorem bld_byte {B b:Nat} {l:List UInt8} {c:Int} {w:World} (h:IsBld B b l w) (hc:0 <= c) (hc2:c < 256) (hlen:l.length + 1 <= 140737488355328) (hB:B <= w.heap.size) :
 Calls Tryz.prog 195 #[.pointer (some ⟨b,0,none⟩),.int .u8 c] w fun e w'=>e = .returned .nilIface /\ IsBld B b (l ++ [UInt8.ofNat c.toNat]) w' /\ Below B w w':=by
 have H:=hid h
 have HB:=hid hB
 have hcl:(Lib.byteCells l).length = l.length:=by simp [Lib.byteCells]
 obtain ⟨i0,hi,hz0,hz1,hz2⟩:=info_parts Tryz.infoU8
 clear h hB
 go_enter Tryz.func195,Tryz.ntmps195
 go_wp2_with fail
 refine (bld_check H.out).mono ?_
 rintro e w1 ⟨rfl,⟨hBb,v,hbk,hown,hne⟩,hb1⟩
 have c1:w1.cell? ⟨b,1,none⟩ = some v:=by rw [Lib.cell_of_heap hbk];rfl
 have HOW:=hid hown
 have HG:=hid hbk
 have HNE:=hid hne
 have HB1:=hid hb1
 have hs1:=hb1.size
 have hbs:B <= w1.heap.size:=Nat.le_trans HB.out hs1
 have HBS:=hid hbs
 clear hown hbk hne hb1 hs1 hbs
 go_wp2_with (at_builtin;refine wpList_append_own _ rfl (.tmp 11) (.tmp 13) _ rfl B tU8 i0 (.int .u8 0) 1 1 Tryz.underlying116 hi hz0 hz1 hz2 rfl (by decide) v _ _ rfl (HOW.out.alloc _) ⟨w1.heap.size,0,none⟩ 1 1 [.int .u8 c] rfl rfl (one_src (World.cell?_alloc_new _ _ _ _)) (by intro u hu;simp at hu;subst hu;rfl) (by rw [hcl];unfold maxLen;omega) (by rw [hcl];omega) (by have:=HBS.out;simp;omega) ?_;intro v' w2 hown' hgrow _;obtain ⟨g,cap,rfl⟩:=row_succ hown';obtain ⟨q1,q2,q3,q4⟩:=bld_put (bs':=Lib.byteCells l ++ [.int .u8 c]) hBb (Blk.alloc (cs:=[_,_]) HG.out _) HNE.out (HOW.out.alloc _) (by simpa using hown') hgrow)
 go_ret
 rw [hcl] at q1 q2
 refine ⟨rfl,.inr ?_,HB1.out.trans (((Below.refl B w1).alloc HBS.out _).trans (q2 (by have:=HBS.out;simp;omega)))⟩
 have e:Lib.byteCells (l ++ [UInt8.ofNat c.toNat]) = Lib.byteCells l ++ [.int .u8 c]:=by
  simp [Lib.byteCells]
  omega
 rw [e]
 exact q1
theorem bld_text {B b:Nat} {l:List UInt8} {s:ByteArray} {w:World} (h:IsBld B b l w) (hlen:l.length + s.size <= 140737488355328) (hB:B <= w.heap.size) :
 Calls Tryz.prog 107 #[.pointer (some ⟨b,0,none⟩),.string s] w fun e w'=>e = .returned (.tuple #[.int .i64 s.size,.nilIface]) /\ IsBld B b (l ++ s.data.toList) w' /\ Below B w w':=by
 have H:=hid h
 have HB:=hid hB
 have HL:=hid hlen
 have hcl:(Lib.byteCells l).length = l.length:=by simp [Lib.byteCells]
 obtain ⟨i0,hi,hz0,hz1,hz2⟩:=info_parts Tryz.infoU8
 clear h hB hlen
 go_enter Tryz.func107,Tryz.ntmps107
 go_wp2_with fail
 refine (bld_check H.out).mono ?_
 rintro e w1 ⟨rfl,⟨hBb,v,hbk,hown,hne⟩,hb1⟩
 have c1:w1.cell? ⟨b,1,none⟩ = some v:=by rw [Lib.cell_of_heap hbk];rfl
 have HOW:=hid hown
 have HG:=hid hbk
 have HNE:=hid hne
 have HB1:=hid hb1
 have hs1:=hb1.size
 have hbs:B <= w1.heap.size:=Nat.le_trans HB.out hs1
 have HBS:=hid hbs
 have hst:(Lib.strCells s).length = s.size:=Lib.strCells_length s
 have HST:=hid hst
 clear hown hbk hne hb1 hs1 hbs hst
 go_wp2_with (at_builtin;refine Lib.wpList_append_own_string _ rfl (.tmp 12) (.tmp 13) 116 9 rfl B tU8 i0 Tryz.underlying116 Tryz.underlying9 hi hz0 hz1 hz2 v _ _ rfl HOW.out s rfl (by have:=HL.out;rw [hcl];unfold maxLen;omega) (by have:=HL.out;rw [hcl];omega) HBS.out ?_;intro v' w2 hown' hgrow _;obtain ⟨ao,cap,rfl⟩:=row_any hown';obtain ⟨q1,q2,q3,q4⟩:=bld_put (bs':=Lib.byteCells l ++ Lib.strCells s) hBb HG.out HNE.out HOW.out (by simpa [HST.out] using hown') hgrow)
 go_ret2
 rw [hcl] at q1 q2
 refine ⟨rfl,.inr ?_,HB1.out.trans (q2 HBS.out)⟩
 have e:Lib.byteCells (l ++ s.data.toList) = Lib.byteCells l ++ Lib.strCells s:=by simp [Lib.byteCells,Lib.strCells]
 rw [e]
 exact q1
theorem bld_new (w:World):IsBld w.heap.size w.heap.size [] (w.alloc (.cells #[.pointer none,.slice none 0 0] tBld)) :=
 .inl ⟨Nat.le_refl _,.slice none 0 0,World.alloc_heap_new w _,World.ownsRow_nil _ _ _ _,by simp [Value.ownBlock]⟩
theorem run_append_string_mine {P:Program} {w:World} {t u ty e:TypeId} {i:TypeInfo} (ht:P.underlying t = some (.slice e)) (hu:P.underlying u = some .string) (hi:P.info? e = some i) (hz:i.zero = some (.int .u8 0))
 (hsize:i.size = 1) (hby:i.bytes = 1) {v:Value} {n:Nat} {xs:List Value} (hown:w.ownsRow 0 e 1 v n xs) (s:ByteArray) (hbytes:n + s.size <= 140737488355328) :
 ∃ v' w',(Builtin.append_ #[t,u] ty #[v,.string s]).run P w = .ok v' w' /\ w'.ownsRow 0 e 1 v' (n + s.size) (xs ++ Lib.strCells s) /\ Fr (fun k=>v.ownBlock = some k) w w' /\
  (∀ k,v'.ownBlock = some k -> v.ownBlock = some k \/ w.heap.size <= k) /\ (v' = .slice none 0 0 ↔ v = .slice none 0 0 /\ s.size = 0):=by
 have h63:n + s.size <= maxLen:=by unfold maxLen;omega
 rcases hown.2 with ⟨rfl,rfl⟩ | ⟨g,cap,cur,rfl,hbg,hg,hnc,hcm,hcs,htake⟩
 ·obtain ⟨v',w',hr,h2,h3,h4⟩:=Lib.run_append_own_string (P:=P) w w.heap.size t u ty e i ht hu hi hz hsize hby (.slice none 0 0) 0 xs ⟨hown.1,.inl ⟨rfl,rfl⟩⟩ s h63 hbytes (Nat.le_refl _)
  exact ⟨v',w',hr,ownsRow_base h2,(Fr.refl _ w).grown h3 (fun k hk=>by cases hk),fun k hk=>.inr (h2.lt k hk).1,h4⟩
 ·obtain ⟨v',w',hr,h2,h3,h4⟩:=Lib.run_append_own_string (P:=P) w 0 t u ty e i ht hu hi hz hsize hby (.slice (some ⟨g,0,none⟩) n cap) n xs hown s h63 hbytes (Nat.zero_le _)
  refine ⟨v',w',hr,h2,(Fr.refl _ w).grown h3 (fun k hk=>.inl hk),?_,h4⟩
  by_cases hroom:n + s.size <= cap
  ·have hr2:=Lib.run_append_room_string (P:=P) w t u ty e i ht hu hi hsize g n cap cur hg s hroom (by omega)
   rw [hr] at hr2
   simp only [Result.ok.injEq] at hr2
   rw [hr2.1]
   exact fun k hk=>.inl hk
  ·have holds:∀ j u,xs[j]? = some u -> w.cell? ((⟨g,0,none⟩:Addr).add j) = some u:=hown.cells (g:=g) rfl
   have hxl:xs.length = n:=by simpa using hown.1
   have hr2:=Lib.run_append_grow_string (P:=P) w t u ty e i (.int .u8 0) ht hu hi hz ⟨g,0,none⟩ n cap xs (by rw [hsize];simpa using hxl) holds s (by omega) (by omega) (by rw [hby];exact growslice_fits (by omega) (by omega))
   rw [hr] at hr2
   simp only [Result.ok.injEq] at hr2
   rw [hr2.1]
   intro k hk
   simp only [Value.ownBlock,Option.some.injEq] at hk
   exact .inr (by omega)
theorem wpList_append_string_mine {P:Program} {w:World} {ops:Array Oper} {rest:List Oper} {o:Oper} {a:Act} {Q:Exit -> Act -> World -> Prop} (hgd:o.guard = none) {s x:Operand} {t u e:TypeId} {i:TypeInfo}
 (ho:o.op = .call { callee:=.builtin .append,args:=#[s,x],argTypes:=#[t,u] }) (ht:P.underlying t = some (.slice e)) (hu:P.underlying u = some .string) (hi:P.info? e = some i) (hz:i.zero = some (.int .u8 0))
 (hsize:i.size = 1) (hby:i.bytes = 1) {v:Value} {n:Nat} {xs:List Value} (hs:a.eval s = v) (hown:w.ownsRow 0 e 1 v n xs) {y:ByteArray} (hx:a.eval x = .string y) (hbytes:n + y.size <= 140737488355328)
 (h:∀ v' w',w'.ownsRow 0 e 1 v' (n + y.size) (xs ++ Lib.strCells y) -> Fr (fun k=>v.ownBlock = some k) w w' -> (∀ k,v'.ownBlock = some k -> v.ownBlock = some k \/ w.heap.size <= k) -> (v' = .slice none 0 0 ↔ v = .slice none 0 0 /\ y.size = 0) ->
  wpList P ops Q rest (a.put o.dst v') w'):wpList P ops Q (o :: rest) a w:=by
 refine wpList_plain hgd fun K hK=>?_
 obtain ⟨v',w',hr,h2,h3,h4,h5⟩:=run_append_string_mine (P:=P) (ty:=o.type) ht hu hi hz hsize hby hown y hbytes
 unfold Oper.wp execOp
 simp only [ho,resolve,invoke,builtin,Sem.run_bind,Sem.run_pure,Result.andThen_ok,List.map_toArray,List.map_cons,List.map_nil,hs,hx,hr]
 exact hK _ _ (h v' w' h2 h3 h4 h5)
def bldA (b:Nat) (l:List UInt8):Asr:=fun w S=>∃ p v,(p = .pointer none \/ p = .pointer (some ⟨b,0,none⟩)) /\ Blk w b tBld [p,v] /\ w.ownsRow 0 tU8 1 v l.length (Lib.byteCells l) /\ v.ownBlock ≠ some b /\ (l = [] -> v = .slice none 0 0) /\
 S b /\ ∀ k,v.ownBlock = some k -> S k
theorem loc_bld (b:Nat) (l:List UInt8):Loc (bldA b l):=by
 rintro w w' S T ⟨p,v,h1,h2,h3,h4,h5,h6,h7⟩ hf hT
 exact ⟨p,v,h1,h2.fr hf (hT b h6),row_fr h3 hf (fun k hk=>hT k (h7 k hk)),h4,h5,h6,h7⟩
theorem bldA_new (w:World):bldA w.heap.size [] (w.alloc (.cells #[.pointer none,.slice none 0 0] tBld)) (Plus Nob w (w.alloc (.cells #[.pointer none,.slice none 0 0] tBld))) :=
 ⟨_,_,.inl rfl,Blk.new w tBld [.pointer none,.slice none 0 0],World.ownsRow_nil _ _ _ _,by simp [Value.ownBlock],fun _=>rfl,.inr ⟨Nat.le_refl _,by simp⟩,fun k hk=>by simp [Value.ownBlock] at hk⟩
theorem bldF_check {b:Nat} {p v:Value} {bs:List Value} {w:World} (hp:p = .pointer none \/ p = .pointer (some ⟨b,0,none⟩)) (hb:Blk w b tBld [p,v]) (hown:w.ownsRow 0 tU8 1 v bs.length bs) (hne:v.ownBlock ≠ some b) :
 Calls Tryz.prog 160 #[.pointer (some ⟨b,0,none⟩)] w fun e w'=>e = .returned (.tuple #[]) /\ Blk w' b tBld [.pointer (some ⟨b,0,none⟩),v] /\ Fr (· = b) w w':=by
 obtain ⟨j,hj,hjs⟩:=Option.map_eq_some_iff.1 Tryz.sizeBld
 rcases hp with rfl | rfl
 ·have h:Lib.BuilderAt tBld tU8 0 b (.pointer none) bs w:=⟨Nat.zero_le _,v,hb,hown,hne⟩
  have h0:=h.cell0
  have hsh:=h.shape
  have hfz:=h.frozen0
  have H:=hid (hb.set 0 (.pointer (some ⟨b,0,none⟩)))
  have HF:=hid (Fr.setCell (S:=(· = b)) rfl w 0 (.pointer (some ⟨b,0,none⟩)))
  clear h hb hown hne
  go_enter Tryz.func160,Tryz.ntmps160
  go_wp2
  rw [Lib.run_to_unsafe w ⟨b,0,none⟩ Tryz.underlying174 Tryz.underlying259 hj (by rw [hjs];decide) hsh (Nat.zero_lt_succ 1)]
  simp only [Result.andThen]
  rw [Oper.upon_value]
  go_wp2
  rw [run_callFunc_extern Tryz.func189 (by kernel_rfl) (by kernel_rfl) (by kernel_rfl) (e:=Extern.AbiNoEscape.same) (by kernel_rfl)]
  rw [Lib.run_noEscape]
  simp only [Result.andThen]
  rw [Oper.upon_value]
  go_wp2
  rw [Lib.run_from_unsafe w ⟨b,0,none⟩ Tryz.underlying259 Tryz.underlying174 hj hsh Tryz.liesBld]
  simp only [Result.andThen]
  rw [Oper.upon_value]
  go_wp2
  go_end0
  exact ⟨rfl,H.out,HF.out⟩
 ·have h:Lib.BuilderAt tBld tU8 0 b (.pointer (some ⟨b,0,none⟩)) bs w:=⟨Nat.zero_le _,v,hb,hown,hne⟩
  have h0:=h.cell0
  have H:=hid hb
  clear h hb hown hne
  go_enter Tryz.func160,Tryz.ntmps160
  go_wp2
  rw [Lib.run_neq_ptr_same w _ Tryz.underlying174 hj]
  go_wp2
  go_end0
  exact ⟨rfl,H.out,Fr.refl _ _⟩
theorem bldF_text {b:Nat} {l:List UInt8} (s:ByteArray) (w:World) (hlen:l.length + s.size <= 140737488355328) :
 Tri Tryz.prog 107 #[.pointer (some ⟨b,0,none⟩),.string s] w (bldA b l) (fun e=>e = .returned (.tuple #[.int .i64 s.size,.nilIface])) (bldA b (l ++ s.data.toList)):=by
 rintro S ⟨p,v,hp,hb,hown,hne,hnil,hSb,hSv⟩ hSlt
 have hcl:(Lib.byteCells l).length = l.length:=by simp [Lib.byteCells]
 have hst:(Lib.strCells s).length = s.size:=Lib.strCells_length s
 obtain ⟨i0,hi,hz0,hz1,hz2⟩:=info_parts Tryz.infoU8
 have HCK:=hid (bldF_check hp hb (by rw [hcl];exact hown) hne)
 have HOWN:=hid hown
 have HNE:=hid hne
 have HL:=hid hlen
 have HNIL:=hid hnil
 have HCL:=hid hcl
 have HST:=hid hst
 clear hb hown hne hlen hnil hp hcl hst
 go_enter Tryz.func107,Tryz.ntmps107
 go_wp2_with fail
 refine HCK.out.mono ?_
 rintro e w1 ⟨rfl,hb1,hf1⟩
 have c1:=hb1.cell (j:=1) rfl
 have ho1:=row_fr HOWN.out hf1 (fun k hk e=>HNE.out (by rw [hk,e]))
 have HB1:=hid hb1
 have HO1:=hid ho1
 have HF1:=hid hf1
 clear hb1 ho1 hf1
 go_wp2_with (at_builtin;refine wpList_append_string_mine rfl (s:=.tmp 12) (x:=.tmp 13) rfl Tryz.underlying116 Tryz.underlying9 hi hz0 hz1 hz2 rfl HO1.out rfl HL.out ?_;intro v' w2 hown' hf2 hk2 hn2;obtain ⟨ao,cap,rfl⟩:=row_any hown';have hb2:=HB1.out.fr hf2 HNE.out;have q3:=hb2.cell (j:=1) rfl;have q4:=hb2.free 1)
 go_ret2
 have hbw:b < w1.heap.size:=HB1.out.lt
 have hne2:∀ k,(Value.slice ao (l.length + s.size) cap).ownBlock = some k -> k ≠ b:=by
  intro k hk e
  subst e
  rcases hk2 k hk with h | h
  ·exact HNE.out h
  ·omega
 have hfs:Fr (· = b) w2 (w2.setCell ⟨b,1,none⟩ (.slice ao (l.length + s.size) cap)):=Fr.setCell (S:=(· = b)) rfl _ _ _
 have hfa:Fr S w (w2.setCell ⟨b,1,none⟩ (.slice ao (l.length + s.size) cap)) :=
  ((HF1.out.mono (fun k e=>by rw [e];exact hSb)).trans' hf2 (fun i _ e=>hSv i e)).trans (hfs.mono (fun k e=>by rw [e];exact hSb))
 have hll:(l ++ s.data.toList).length = l.length + s.size:=by rw [List.length_append,bytes_len]
 have hbc:Lib.byteCells (l ++ s.data.toList) = Lib.byteCells l ++ Lib.strCells s:=by simp [Lib.byteCells,Lib.strCells]
 refine ⟨rfl,⟨.pointer (some ⟨b,0,none⟩),.slice ao (l.length + s.size) cap,.inr rfl,hb2.set 1 _,?_,fun e=>hne2 b e rfl,fun h=>?_,.inl hSb,?_⟩,hfa⟩
 ·rw [hll,hbc]
  exact row_fr hown' hfs (fun k hk e=>hne2 k hk e)
 ·have h1:l = []:=(List.append_eq_nil_iff.1 h).1
  have h2:s.data.toList = []:=(List.append_eq_nil_iff.1 h).2
  exact hn2.2 ⟨HNIL.out h1,by rw [<- bytes_len,h2];rfl⟩
 ·intro k hk
  rcases hk2 k hk with h | h
  ·exact .inl (hSv k h)
  ·by_cases hS:S k
   ·exact .inl hS
   ·have h1:=(hown'.lt k hk).2
    have h2:=HF1.out.size
    exact .inr ⟨by omega,by simpa using h1⟩
theorem fr_freeze {S:Nat -> Prop} {w0 w:World} (h:Fr S w0 w) {p:Addr} (hp:S p.block) (n:Nat):Fr S w0 (w.freeze p n):=by
 refine h.trans ?_
 unfold World.freeze
 split
 ·exact Fr.refl S w
 ·exact ⟨rfl,rfl,rfl,by simp,fun k _ hk=>by
   simp only [Array.getElem?_modify]
   rw [if_neg (fun e=>hk (by rw [<- e];exact hp))]⟩
theorem bldF_string {b:Nat} {l:List UInt8} (w:World) :
 Tri Tryz.prog 109 #[.pointer (some ⟨b,0,none⟩)] w (bldA b l) (fun e=>e = .returned (.string ⟨l.toArray⟩)) Emp:=by
 rintro S ⟨p,v,hp,hb,hown,hne,hnil,hSb,hSv⟩ hSlt
 by_cases h0:l = []
 ·obtain rfl:=hnil h0
  subst h0
  have c1:=hb.drew.cell (j:=1) rfl
  have hSD:(Builtin.unsafeSliceData_ #[116] 233 #[.slice none 0 0]).run Tryz.prog w.drew = .ok (.pointer none) w.drew:=rfl
  have hUS:=Lib.run_unsafeString_none (P:=Tryz.prog) w.drew 233 3 9 none
  clear hb hown hne hnil hp
  go_enter Tryz.func109,Tryz.ntmps109
  go_wp2
  go_region
  all_goals (go_wp2;go_ret;exact ⟨rfl,trivial,(Fr.refl _ _).drew⟩)
 ·have hl0:l.length ≠ 0:=by simpa using h0
  obtain ⟨g,cap,cur,rfl,hbg,hg,hnc,hcm,hcs,htake⟩:∃ g cap cur,v = .slice (some ⟨g,0,none⟩) l.length cap /\ 0 <= g /\ w.heap[g]? = some (.cells cur tU8 (0,0)) /\ l.length <= cap /\ cap <= maxLen /\ cur.size = cap * 1 /\ cur.toList.take (l.length * 1) = Lib.byteCells l:=by
   rcases hown.2 with ⟨_,hz⟩ | ⟨g,cap,cur,hv,r⟩
   ·exact absurd hz hl0
   ·exact ⟨g,cap,cur,hv,r⟩
  have c1:=hb.drew.cell (j:=1) rfl
  have hSD:(Builtin.unsafeSliceData_ #[116] 233 #[.slice (some ⟨g,0,none⟩) l.length cap]).run Tryz.prog w.drew = .ok (.pointer (some ⟨g,0,none⟩)) w.drew :=
   Lib.run_unsafeSliceData_row _ _ _ _ _ _ (by omega)
  have hUS:(Builtin.unsafeString_ #[233, 3] 9 #[.pointer (some ⟨g,0,none⟩),.int .i64 l.length]).run Tryz.prog w.drew = .ok (.string ⟨l.toArray⟩) (w.drew.freeze ⟨g,0,none⟩ l.length):=by
   refine Lib.run_unsafeString_row w.drew 233 3 9 tU8 Tryz.underlying233 (by kernel_rfl) g cur.size (by have hg':w.drew.heap[g]? = some (.cells cur tU8 (0,0)):=hg;simp [World.shape?,hg']) l h0 (by omega) (by unfold maxLen at hcm;omega) ?_
   intro j x hx
   exact hown.cells (g:=g) rfl j (.int .u8 x.toNat) (by simp [Lib.byteCells,hx])
  have hSg:=hSv g rfl
  have HSG:=hid hSg
  clear hb hown hne hnil hp hSv hg htake hSg
  go_enter Tryz.func109,Tryz.ntmps109
  go_wp2
  go_region
  all_goals (go_wp2;go_ret;exact ⟨rfl,trivial,fr_freeze ((Fr.refl _ _).drew) HSG.out _⟩)
def nums (l:List Nat):List Value:=l.map fun (h:Nat)=>Value.int .i64 (h:Int)
theorem nums_one (l:List Nat):∀ u ∈ nums l,u.oneCell' = true:=by
 intro u hu
 obtain ⟨x,_,rfl⟩:=List.mem_map.1 hu
 rfl
theorem two_bytes (h:Nat):leBytes h 2 = twoB h:=by
 simp only [leBytes,twoB]
theorem rep_zero (n:Nat):Lib.repeatL (⟨#[0]⟩:ByteArray).data.toList n = List.replicate n 0:=by
 induction n with
 | zero=>rfl
 | succ n ih =>
  rw [List.replicate_succ,<- ih]
  rfl
theorem bld_fr {B b:Nat} {l:List UInt8} {w w':World} (h:IsBld B b l w) (hf:Fr Nob w w'):IsBld B b l w':=by
 have key:∀ p,Lib.BuilderAt tBld tU8 B b p (Lib.byteCells l) w -> Lib.BuilderAt tBld tU8 B b p (Lib.byteCells l) w':=by
  rintro p ⟨hB,v,hb,hown,hne⟩
  refine ⟨hB,v,(hf.block b (lt_of_block hb) (fun h=>h)).trans hb,⟨hown.1,?_⟩,hne⟩
  rcases hown.2 with h | ⟨g,cap,cur,h1,h2,h3,h4⟩
  ·exact .inl h
  ·exact .inr ⟨g,cap,cur,h1,h2,(hf.block g (lt_of_block h3) (fun h=>h)).trans h3,h4⟩
 exact h.elim (fun h=>.inl (key _ h)) (fun h=>.inr (key _ h))
theorem head_calls {l:List Nat} {ao:Option Addr} {c:Nat} {w:World} (hS:Srcs w (.slice ao l.length c) l.length 1 (nums l)) (hl:l.length <= 30) (hh:∀ h ∈ l,h < 65536) :
 Calls Tryz.prog 170 #[.slice ao l.length c] w fun e w'=>e = .returned (.string (headP l)) /\ Fr Nob w w':=by
 have HS:=hid hS
 have HH:=hid hh
 obtain ⟨n,hn⟩:∃ n,n = l.length:=⟨_,rfl⟩
 have HN:=hid hn
 rw [<- hn] at hl ⊢
 clear hS hh hn
 go_enter Tryz.func170,Tryz.ntmps170
 go_wp2_with fail
 have L1:IsBld w.heap.size w.heap.size [] (w.alloc (.cells #[.pointer none,.slice none 0 0] tBld)):=bld_new w
 refine (bld_byte L1 (by omega) (by omega) (by simp) (by simp)).mono ?_
 rintro e w1 ⟨rfl,hb1,hB1⟩
 rw [List.nil_append,Int.toNat_natCast] at hb1
 have hB1':Below w.heap.size w w1:=((Below.refl _ w).alloc (Nat.le_refl _) _).trans hB1
 clear L1 hB1
 go_wp2_with fail
 go_loopw [12] (fun i wr=>∃ j:Nat,j <= n /\ i = .int .i64 j /\ IsBld w.heap.size w.heap.size (UInt8.ofNat n :: (l.take j).flatMap twoB) wr /\ Below w.heap.size w wr) (fun i _=>n - (intOf i).toNat)
 case atStart=>exact ⟨0,Nat.zero_le _,rfl,by simpa using hb1,hB1'⟩
 case round =>
  obtain ⟨j,hj,rfl,hb,hB⟩:=hrel
  have HB:=hid hb
  have HW:=hid hB
  clear hb1 hB1' hb hB
  by_cases hlt:j < n
  ·obtain ⟨x,hx⟩:∃ x,l[j]? = some x:=⟨_,List.getElem?_eq_getElem (by rw [<- HN.out];exact hlt)⟩
   have hF:Fr Nob w wr:=Fr.of_below HW.out (fun _ h _=>h)
   have hx6:x < 65536:=HH.out x (List.mem_of_getElem? hx)
   obtain ⟨g,off,rfl,cx⟩:=(HS.out.fr hF (fun _ _ _ _ h=>h)).at (j:=j) (u:=.int .i64 (x:Int)) (by simp [nums,hx])
   have htk:(l.take (j + 1)).flatMap twoB = (l.take j).flatMap twoB ++ twoB x:=by rw [List.take_add_one,hx];simp
   have HT:=hid htk
   have hln:((l.take j).flatMap twoB).length = 2 * j:=by rw [flat_length,List.length_take];have:=HN.out;omega
   clear hx hF htk
   go_wp2_with fail
   refine (wbytes_calls x 2 wr (by omega) (by omega) (by omega)).mono ?_
   rintro e w2 ⟨rfl,hf2⟩
   rw [two_bytes x]
   have hb2:Below w.heap.size wr w2:=hf2.below _ HW.out.size (fun _ h=>h.elim)
   have hbl2:IsBld w.heap.size w.heap.size (UInt8.ofNat n :: (l.take j).flatMap twoB) w2:=bld_fr HB.out hf2
   have h2s:(⟨(twoB x).toArray⟩:ByteArray).size = 2:=rfl
   go_wp2_with fail
   refine (bld_text hbl2 (by rw [h2s,List.length_cons,hln];omega) (Nat.le_trans HW.out.size hb2.size)).mono ?_
   rintro e w3 ⟨rfl,hbl3,hb3⟩
   go_wp2_with fail
   go_roundw
   case rel =>
    refine ⟨j + 1,hlt,by go_num,?_,(HW.out.trans hb2).trans hb3⟩
    rw [HT.out]
    simpa using hbl3
   case measure=>simp [intOf];omega
  ·obtain rfl:j = n:=by omega
   have htk:l.take j = l:=by rw [HN.out,List.take_length]
   rw [htk] at HB
   have hln:(l.flatMap twoB).length = 2 * j:=by rw [flat_length,HN.out]
   have hlc:(Lib.byteCells (UInt8.ofNat j :: l.flatMap twoB)).length = 2 * j + 1:=by simp [Lib.byteCells,hln]
   go_wp2_with fail
   refine (Tryz.Builder_Len _ _ _ _ HB.out).mono ?_
   rw [hlc]
   rintro e w4 ⟨rfl,rfl⟩
   have hsub:(64:Int) - (2 * (j:Int) + 1) = ((63 - 2 * j:Nat):Int):=by omega
   go_wp2_with fail
   refine (Tryz.strings_Repeat (⟨#[0]⟩:ByteArray) (63 - 2 * j) w4 (by omega) (by show 1 * (63 - 2 * j) <= _;omega)).mono ?_
   rintro e w5 ⟨rfl,hb5⟩
   have hf5:Fr Nob w4 w5:=Fr.of_below hb5 (fun _ h _=>h)
   have hbl5:=bld_fr HB.out hf5
   obtain ⟨Z,hZ⟩:∃ Z:ByteArray,Z = ⟨(Lib.repeatL (⟨#[0]⟩:ByteArray).data.toList (63 - 2 * j)).toArray⟩:=⟨_,rfl⟩
   have hZl:Z.data.toList = List.replicate (63 - 2 * j) 0:=by rw [hZ,rep_zero]
   have hrs:Z.size = 63 - 2 * j:=by rw [<- bytes_len,hZl,List.length_replicate]
   rw [<- hZ]
   have HB5:=hid hb5
   clear hb5 hf5 hsub hZ
   go_wp2_with fail
   refine (bld_text hbl5 (by rw [hrs,List.length_cons,hln];omega) (Nat.le_trans HW.out.size HB5.out.size)).mono ?_
   rintro e w6 ⟨rfl,hbl6,hb6⟩
   have HB6:=hid hb6
   clear hbl5 hb6
   go_wp2_with fail
   refine (Tryz.Builder_String_any _ _ _ _ hbl6 (Nat.le_trans HW.out.size (Nat.le_trans HB5.out.size HB6.out.size))).mono ?_
   rintro e w7 ⟨rfl,hb7⟩
   have HB7:=hid hb7
   have hhead:(⟨((UInt8.ofNat j :: l.flatMap twoB) ++ Z.data.toList).toArray⟩:ByteArray) = headP l:=by
    unfold headP headL
    rw [hZl,<- HN.out]
    simp
   rw [hhead]
   clear hbl6 hb7 hhead hrs hZl
   go_wp2_with fail
   go_ret
   exact ⟨rfl,Fr.of_below (((HW.out.trans (HB5.out.mono HW.out.size)).trans HB6.out).trans HB7.out) (fun _ h _=>h)⟩
theorem byteAt_get {s:ByteArray} {i:Nat} (h:i < s.size):byteAt s i = s[i].toNat:=by
 unfold byteAt
 rw [List.getD,byte_at h]
 rfl
theorem byteAt_lt (s:ByteArray) (i:Nat):byteAt s i < 256:=UInt8.toNat_lt _
theorem homeAt_lt (s:ByteArray) (i:Nat):homeAt s i < 65536:=by
 have h1:=byteAt_lt s (1 + 2 * i)
 have h2:=byteAt_lt s (2 + 2 * i)
 unfold homeAt
 omega
theorem le_two {s:ByteArray} {i:Nat} (h:3 + 2 * i <= s.size):leNat (s.extract (1 + 2 * i) (3 + 2 * i)).data.toList = homeAt s i:=by
 have e:(s.extract (1 + 2 * i) (3 + 2 * i)).data.toList = [s[1 + 2 * i]'(by omega),s[2 + 2 * i]'(by omega)]:=by
  apply List.ext_getElem?
  intro j
  rw [ByteArray.data_extract,Array.toList_extract,List.extract_eq_take_drop]
  rw [List.getElem?_take,List.getElem?_drop]
  match j with
  | 0=>rw [if_pos (by omega),byte_at (by omega)];rfl
  | 1=>rw [if_pos (by omega),show 1 + 2 * i + 1 = 2 + 2 * i by omega,byte_at (by omega)];rfl
  | j + 2=>rw [if_neg (by omega)];rfl
 rw [e]
 unfold homeAt
 rw [byteAt_get (by omega),byteAt_get (by omega)]
 simp [leNat]
def risesAt (s:ByteArray) (most:Int) (i:Nat):Bool:=decide ((homeAt s i:Int) < most) && (i == 0 || decide (homeAt s (i - 1) < homeAt s i))
theorem rising_succ (s:ByteArray) (most:Int) (j:Nat):rising s most (j + 1) = (rising s most j && risesAt s most j):=by
 unfold rising risesAt
 rw [List.range_succ,List.all_append]
 simp
theorem rising_bad {s:ByteArray} {most:Int} {j n:Nat} (hj:j < n) (h:risesAt s most j = false):rising s most n = false:=by
 unfold rising
 rw [List.all_eq_false]
 exact ⟨j,List.mem_range.2 hj,by unfold risesAt at h;rw [h];simp⟩
def hs (s:ByteArray) (j:Nat):List Nat:=(List.range j).map (homeAt s)
theorem hs_succ (s:ByteArray) (j:Nat):hs s (j + 1) = hs s j ++ [homeAt s j]:=by unfold hs;rw [List.range_succ,List.map_append];rfl
theorem hs_length (s:ByteArray) (j:Nat):(hs s j).length = j:=by simp [hs]
theorem hs_get (s:ByteArray) {i j:Nat} (h:i < j):(hs s j)[i]? = some (homeAt s i):=by simp [hs,h]
theorem homesP_eq (s:ByteArray) (most:Int):homesP s most = if byteAt s 0 <= 30 /\ rising s most (byteAt s 0) = true /\ headP (hs s (byteAt s 0)) = s then some (hs s (byteAt s 0)) else none:=rfl
theorem Tryz.infoInt:(Tryz.prog.info? 3).map (fun i=>(i.zero,i.size,i.bytes)) = some (some (.int .i64 0),1,8):=by kernel_rfl
theorem Tryz.rowInt:RowT Tryz.prog 72 3 1 8:=by
 obtain ⟨i0,hi,hz0,hz1,hz2⟩:=info_parts Tryz.infoInt
 exact ⟨⟨i0,_,Tryz.underlying72,hi,hz0,hz1,hz2,rfl⟩,by decide,by decide⟩
abbrev tIntE:Nat:=3
def HomesRet (s:ByteArray) (most:Int) (w:World) (e:Ending) (w':World):Prop :=
 Fr Nob w w' /\ ∃ v,e = .returned (.tuple #[v,.bool (homesP s most).isSome]) /\ ∀ l,homesP s most = some l -> w'.ownsRow 0 tIntE 1 v l.length (nums l) /\ ∀ k,v.ownBlock = some k -> w.heap.size <= k
theorem homesRet_none {s:ByteArray} {most:Int} {w w':World} {v:Value} (h:homesP s most = none) (hf:Fr Nob w w'):HomesRet s most w (.returned (.tuple #[v,.bool false])) w' :=
 ⟨hf,v,by rw [h];rfl,fun l hl=>by rw [h] at hl;cases hl⟩
theorem homes_calls {s:ByteArray} (hz:s.size = 64) (most:Int) (w:World):Calls Tryz.prog 120 #[.string s,.int .i64 most] w (HomesRet s most w):=by
 have h0:0 < s.size:=by omega
 have hb0:=byteAt_get h0
 obtain ⟨n,hn⟩:∃ n,n = byteAt s 0:=⟨_,rfl⟩
 have hn2:=byteAt_lt s 0
 have hsz:(s.size:Int) = 64:=by omega
 rw [<- hn] at hb0 hn2
 have hbi:(s[0].toNat:Int) = (n:Int):=by rw [<- hb0]
 have HN:=hid hn
 clear hn hb0
 by_cases h30:30 < n
 ·have HB:Hid (homesP s most = none):=(show homesP s most = none by rw [homesP_eq,if_neg (fun h=>by have:=h.1;rw [<- HN.out] at this;omega)])
  have h30':(30:Int) < (n:Int):=by omega
  go_enter Tryz.func120,Tryz.ntmps120
  go_wp2
  go_ret2
  exact homesRet_none HB.out (Fr.refl _ _)
 ·have h30':¬ (30:Int) < (n:Int):=by omega
  go_enter Tryz.func120,Tryz.ntmps120
  go_wp2_with fail
  go_loopw [7,16] (fun o i wr=>∃ j:Nat,j <= n /\ i = .int .i64 j /\ rising s most j = true /\ ∃ ao c,o = .slice ao j c /\ wr.ownsRow 0 tIntE 1 (.slice ao j c) j (nums (hs s j)) /\ (∀ k,(Value.slice ao j c).ownBlock = some k -> w.heap.size <= k) /\ Fr Nob w wr) (fun _ i _=>n - (intOf i).toNat)
  case atStart=>exact ⟨0,Nat.zero_le _,rfl,rfl,none,0,rfl,World.ownsRow_nil _ _ _ _,fun k hk=>(by cases hk),Fr.refl _ _⟩
  case round =>
   obtain ⟨j,hj,rfl,hri,ao,c,rfl,hown,hnew,hf⟩:=hrel
   have HO:=hid hown
   have HW:=hid hnew
   have HF:=hid hf
   have HRI:=hid hri
   clear hown hnew hf hri
   by_cases hlt:j < n
   ·have hle:=le_two (s:=s) (i:=j) (by omega)
    go_wp2_with fail
    refine (wof_calls _ wr (by rw [ByteArray.size_extract];omega)).mono ?_
    rintro e w2 ⟨rfl,hf2⟩
    rw [hle]
    have hlt6:=homeAt_lt s j
    have HF2:Hid (Fr Nob w w2):=HF.out.trans hf2
    have HO2:Hid (w2.ownsRow 0 tIntE 1 (Value.slice ao j c) j (nums (hs s j))):=row_fr HO.out hf2 (fun _ _ h=>h)
    obtain ⟨h,hh⟩:∃ h,h = homeAt s j:=⟨_,rfl⟩
    have HH:=hid hh
    rw [<- hh] at hlt6 ⊢
    clear hle hf2 HO hh
    -- what the round comes to where the home sector may stand here
    have fin:∀ (v':Value) (w3:World) (g c':Nat),v' = .slice (some ⟨g,0,none⟩) (j + 1) c' -> risesAt s most j = true -> w3.ownsRow 0 tIntE 1 v' (j + 1) (nums (hs s j) ++ [.int .i64 (h:Int)]) -> Fr (fun k=>(Value.slice ao j c).ownBlock = some k) (w2.alloc (.cells #[.int .i64 (h:Int)] tIntE)) w3 ->
     (∀ k,v'.ownBlock = some k -> (Value.slice ao j c).ownBlock = some k \/ (w2.alloc (.cells #[.int .i64 (h:Int)] tIntE)).heap.size <= k) ->
     ∃ j':Nat,j' <= n /\ Value.int .i64 ((j:Int) + 1) = .int .i64 j' /\ rising s most j' = true /\ ∃ ao c,v' = .slice ao j' c /\ w3.ownsRow 0 tIntE 1 (.slice ao j' c) j' (nums (hs s j')) /\ (∀ k,(Value.slice ao j' c).ownBlock = some k -> w.heap.size <= k) /\ Fr Nob w w3:=by
     rintro v' w3 g c' rfl hri hown3 hf3 hv3
     refine ⟨j + 1,hlt,by go_num,?_,_,_,rfl,?_,?_,?_⟩
     ·rw [rising_succ,HRI.out,hri];rfl
     ·rw [hs_succ,<- HH.out]
      simpa [nums] using hown3
     ·intro k hk
      rcases hv3 k hk with h | h
      ·exact HW.out k h
      ·have:=HF2.out.size
       simp at h
       omega
     ·exact ((HF2.out.alloc _).trans' hf3 (fun i hi e=>by have:=HW.out i e;omega))
    have FIN:=hid fin
    clear fin
    by_cases hm:most <= (h:Int)
    ·have HB:Hid (homesP s most = none):=(show homesP s most = none by
      rw [homesP_eq,if_neg]
      rintro ⟨_,h2,_⟩
      rw [rising_bad (j:=j) (by rw [<- HN.out];exact hlt) (by unfold risesAt;rw [<- HH.out,decide_eq_false (by omega)];rfl)] at h2
      cases h2)
     go_wp2
     go_ret2
     exact homesRet_none HB.out HF2.out
    by_cases hj0:j = 0
    ·subst hj0
     have hri:risesAt s most 0 = true:=by unfold risesAt;rw [<- HH.out,decide_eq_true (by omega)];rfl
     have HRJ:=hid hri
     clear hri
     go_wp2_with (at_builtin;refine wpList_append_mine rfl (ho:=rfl) (s:=.tmp 45) (x:=.tmp 47) Tryz.rowInt rfl (HO2.out.alloc _) rfl (srcs_one w2 _ _ 1 rfl) (by omega) ?_;intro v' w3 hown3 hf3 hv3 _;obtain ⟨g',cap',rfl⟩:=row_succ hown3)
     go_roundw
     case rel=>exact FIN.out _ w3 g' cap' rfl HRJ.out hown3 hf3 hv3
     case measure=>simp [intOf];omega
    ·obtain ⟨g,c',hgc⟩:∃ g cap,Value.slice ao j c = .slice (some ⟨g,0,none⟩) j cap:=(row_form HO2.out).elim (fun h=>by have:=h.2;omega) id
     simp only [Value.slice.injEq,true_and] at hgc
     obtain ⟨rfl,rfl⟩:=hgc
     have hc:=HO2.out.cells (g:=g) rfl (j - 1) (.int .i64 (homeAt s (j - 1):Int)) (by unfold nums;rw [List.getElem?_map,hs_get s (by omega)];rfl)
     simp only [Addr.add_lit,Nat.zero_add] at hc
     have hj1:((j:Int) - 1) = ((j - 1:Nat):Int):=by omega
     obtain ⟨q,hq⟩:∃ q,q = homeAt s (j - 1):=⟨_,rfl⟩
     rw [<- hq] at hc
     have HQ:=hid hq
     have hpos:(0:Int) < (j:Int):=by omega
     have hjl:j - 1 < j:=by omega
     clear hq
     by_cases hle:(h:Int) <= (q:Int)
     ·have HB:Hid (homesP s most = none):=(show homesP s most = none by
       rw [homesP_eq,if_neg]
       rintro ⟨_,h2,_⟩
       rw [rising_bad (j:=j) (by rw [<- HN.out];exact hlt) (by unfold risesAt;rw [<- HH.out,<- HQ.out,decide_eq_false (p:=q < h) (by omega),show (j == 0) = false from beq_eq_false_iff_ne.2 hj0];simp)] at h2
       cases h2)
      go_wp2
      go_ret2
      exact homesRet_none HB.out HF2.out
     ·have hri:risesAt s most j = true:=by unfold risesAt;rw [<- HH.out,<- HQ.out,decide_eq_true (by omega),decide_eq_true (p:=q < h) (by omega)];simp
      have HRJ:=hid hri
      clear hri
      go_wp2_with (at_builtin;refine wpList_append_mine rfl (ho:=rfl) (s:=.tmp 45) (x:=.tmp 47) Tryz.rowInt rfl (HO2.out.alloc _) rfl (srcs_one w2 _ _ 1 rfl) (by omega) ?_;intro v' w3 hown3 hf3 hv3 _;obtain ⟨g',cap',rfl⟩:=row_succ hown3)
      go_roundw
      case rel=>exact FIN.out _ w3 g' cap' rfl HRJ.out hown3 hf3 hv3
      case measure=>simp [intOf];omega
   ·obtain rfl:j = n:=by omega
    have hln:=hs_length s j
    have hhc:=head_calls (l:=hs s j) (ao:=ao) (c:=c) (w:=wr) (by rw [hln];exact row_srcs HO.out (nums_one _)) (by rw [hln];omega) (by intro h hh;obtain ⟨i,_,rfl⟩:=List.mem_map.1 hh;exact homeAt_lt s i)
    rw [hln] at hhc
    have hcmp:=bytes_beq (headP (hs s j)) s
    go_wp2_with fail
    refine hhc.mono ?_
    rintro e w2 ⟨rfl,hf2⟩
    have HF2:Hid (Fr Nob w w2):=HF.out.trans hf2
    have HO2:Hid (w2.ownsRow 0 tIntE 1 (Value.slice ao j c) j (nums (hs s j))):=row_fr HO.out hf2 (fun _ _ h=>h)
    clear hhc hf2
    by_cases he:headP (hs s j) = s
    ·have HP:Hid (homesP s most = some (hs s j)):=(show homesP s most = some (hs s j) by
      rw [homesP_eq,<- HN.out,if_pos ⟨by omega,HRI.out,he⟩])
     rw [decide_eq_true he] at hcmp
     clear he
     go_wp2
     go_ret2
     refine ⟨HF2.out,_,by rw [HP.out];rfl,fun l hl=>?_⟩
     rw [HP.out] at hl
     simp only [Option.some.injEq] at hl
     subst hl
     rw [hln]
     exact ⟨HO2.out,HW.out⟩
    ·have HP:Hid (homesP s most = none):=(show homesP s most = none by
      rw [homesP_eq,<- HN.out,if_neg (fun h=>he h.2.2)])
     rw [decide_eq_false he] at hcmp
     clear he
     go_wp2
     go_ret2
     exact homesRet_none HP.out HF2.out
section
open Go.RowKit Go.Maps Go.ChangeMaps Go.MapKept
abbrev tMap:Nat:=193
abbrev tStrE:Nat:=9
def entL (x:Nat × ByteArray):Lit × DataW Unit:=(.int .i64 (x.1:Int),.lit (.string x.2.data.toList))
def datL (l:Stg):DataW Unit:=.map (l.map entL)
theorem same_key (a b:Nat):(Lit.int .i64 (a:Int)).sameKey (Lit.int .i64 (b:Int)) = (a == b):=by
 show decide (IntKind.i64 = IntKind.i64 /\ (a:Int) = (b:Int)) = (a == b)
 by_cases h:a = b
 ·subst h;simp
 ·rw [decide_eq_false (by omega)];exact (beq_eq_false_iff_ne.2 h).symm
theorem find_ent (l:Stg) (i:Nat):(l.map entL).find? (fun p=>p.1.sameKey (.int .i64 (i:Int))) = (l.find? (fun x=>x.1 == i)).map entL:=by
 induction l with
 | nil=>rfl
 | cons x l ih =>
  rw [List.map_cons,List.find?_cons,List.find?_cons]
  have e:(entL x).1.sameKey (.int .i64 (i:Int)) = (x.1 == i):=same_key x.1 i
  rw [e]
  cases x.1 == i with
  | true=>rfl
  | false=>exact ih
theorem atKey_dat (l:Stg) (i:Nat) (z:DataW Unit):(datL l).atKey (.int .i64 (i:Int)) z = match l.at i with | some s=>.lit (.string s.data.toList) | none=>z:=by
 simp only [datL,DataW.atKey,find_ent]
 unfold Stg.at
 cases l.find? (fun x=>x.1 == i) <;> rfl
theorem has_dat (l:Stg) (i:Nat):Maps.has (datL l) (.int .i64 (i:Int)) = (l.at i).isSome:=by
 show (l.map entL).any (fun p=>p.1.sameKey (.int .i64 (i:Int))) = _
 induction l with
 | nil=>rfl
 | cons x l ih =>
  have e:(entL x).1.sameKey (.int .i64 (i:Int)) = (x.1 == i):=same_key x.1 i
  rw [List.map_cons,List.any_cons,e,ih]
  unfold Stg.at
  rw [List.find?_cons]
  cases x.1 == i <;> simp
theorem size_dat (l:Stg):Maps.size (datL l) = l.length:=by show (l.map entL).length = _;simp
theorem keys_dat (l:Stg):intKeys (datL l) = l.map fun x=>(x.1:Int):=by show (l.map entL).map _ = _;rw [List.map_map];rfl
theorem put_dat {l:Stg} (ho:l.Ok) (i:Nat) (s:ByteArray):(datL l).put (.int .i64 (i:Int)) (.lit (.string s.data.toList)) = datL (l.put i s):=by
 show DataW.map (DataW.insert (entL (i,s)) ((l.map entL).filter fun p=>!p.1.sameKey (.int .i64 (i:Int)))) = .map ((l.put i s).map entL)
 congr 1
 have ef:∀ l:Stg,(l.map entL).filter (fun p=>!p.1.sameKey (.int .i64 (i:Int))) = (l.filter fun x=>!(x.1 == i)).map entL:=by
  intro l
  rw [List.filter_map]
  congr 1
  apply List.filter_congr
  intro x _
  show (!(entL x).1.sameKey _) = _
  rw [show (entL x).1.sameKey (.int .i64 (i:Int)) = (x.1 == i) from same_key x.1 i]
 rw [ef]
 induction l with
 | nil=>rfl
 | cons x l ih =>
  have hx:=(List.pairwise_cons.1 ho).1
  have ho':=(List.pairwise_cons.1 ho).2
  by_cases h1:i < x.1
  ·have hn:(x :: l).filter (fun x=>!(x.1 == i)) = x :: l:=by
    rw [List.filter_eq_self]
    intro y hy
    rcases List.mem_cons.1 hy with rfl | hy
    ·simp;omega
    ·have:=hx y hy;simp;omega
   rw [hn]
   show DataW.insert (entL (i,s)) (entL x :: l.map entL) = (if i < x.1 then (i,s) :: x :: l else _).map entL
   rw [if_pos h1]
   show (if (entL (i,s)).1.before (entL x).1 then _ else _) = _
   rw [show (entL (i,s)).1.before (entL x).1 = true from decide_eq_true (by show (i:Int) < (x.1:Int);omega)]
   rfl
  ·by_cases h2:i = x.1
   ·have hn:(x :: l).filter (fun x=>!(x.1 == i)) = l:=by
     rw [List.filter_cons_of_neg (by simp [h2]),List.filter_eq_self]
     intro y hy
     have:=hx y hy;simp;omega
    rw [hn]
    show _ = (if i < x.1 then _ else if i = x.1 then (i,s) :: l else _).map entL
    rw [if_neg h1,if_pos h2]
    cases l with
    | nil=>rfl
    | cons y l =>
     show (if (entL (i,s)).1.before (entL y).1 then _ else _) = _
     rw [show (entL (i,s)).1.before (entL y).1 = true from decide_eq_true (by show (i:Int) < (y.1:Int);have:=hx y (by simp);omega)]
     rfl
   ·have hn:(x :: l).filter (fun x=>!(x.1 == i)) = x :: l.filter (fun x=>!(x.1 == i)):=List.filter_cons_of_pos (by simp;omega)
    rw [hn]
    show (if (entL (i,s)).1.before (entL x).1 then _ else entL x :: DataW.insert (entL (i,s)) ((l.filter fun x=>!(x.1 == i)).map entL)) = (if i < x.1 then _ else if i = x.1 then _ else x :: Stg.put l i s).map entL
    rw [show (entL (i,s)).1.before (entL x).1 = false from decide_eq_false (by show ¬ (i:Int) < (x.1:Int);omega),if_neg h1,if_neg h2,List.map_cons,ih ho']
    rfl
theorem put_mem {l:Stg} {i:Nat} {s:ByteArray} {x:Nat × ByteArray} (h:x ∈ l.put i s):x = (i,s) \/ x ∈ l:=by
 induction l with
 | nil=>exact .inl (List.mem_singleton.1 h)
 | cons y l ih =>
  have h:x ∈ (if i < y.1 then (i,s) :: y :: l else if i = y.1 then (i,s) :: l else y :: Stg.put l i s):=h
  split at h
  ·exact (List.mem_cons.1 h)
  ·split at h
   ·rcases List.mem_cons.1 h with h | h
    ·exact .inl h
    ·exact .inr (List.mem_cons_of_mem _ h)
   ·rcases List.mem_cons.1 h with h | h
    ·exact .inr (by rw [h];simp)
    ·exact (ih h).imp id (List.mem_cons_of_mem _)
theorem put_ok {l:Stg} (ho:l.Ok) (i:Nat) (s:ByteArray):(l.put i s).Ok:=by
 induction l with
 | nil=>exact List.pairwise_singleton _ _
 | cons x l ih =>
  have hx:=(List.pairwise_cons.1 ho).1
  have ho':=(List.pairwise_cons.1 ho).2
  show List.Pairwise _ (if i < x.1 then (i,s) :: x :: l else if i = x.1 then (i,s) :: l else x :: Stg.put l i s)
  split
  ·rename_i h
   refine List.pairwise_cons.2 ⟨fun y hy=>?_,ho⟩
   rcases List.mem_cons.1 hy with rfl | hy
   ·exact h
   ·exact Nat.lt_trans h (hx y hy)
  ·split
   ·rename_i _ h
    exact List.pairwise_cons.2 ⟨fun y hy=>by have:=hx y hy;show i < y.1;omega,ho'⟩
   ·rename_i h1 h2
    refine List.pairwise_cons.2 ⟨fun y hy=>?_,ih ho'⟩
    rcases put_mem hy with rfl | hy
    ·show x.1 < i;omega
    ·exact hx y hy
theorem at_put (l:Stg) (ho:l.Ok) (i j:Nat) (s:ByteArray):(l.put i s).at j = if j = i then some s else l.at j:=by
 by_cases h:j = i
 ·subst h
  rw [if_pos rfl]
  refine at_of_mem (x:=(j,s)) (put_ok ho j s) ?_
  induction l with
  | nil=>exact List.mem_singleton.2 rfl
  | cons x l ih =>
   show _ ∈ (if j < x.1 then (j,s) :: x :: l else if j = x.1 then (j,s) :: l else x :: Stg.put l j s)
   split
   ·simp
   ·split
    ·simp
    ·exact List.mem_cons_of_mem _ (ih (List.pairwise_cons.1 ho).2)
 ·rw [if_neg h]
  cases hj:l.at j with
  | some t =>
   refine at_of_mem (x:=(j,t)) (put_ok ho i s) ?_
   have hm:=at_mem hj
   clear hj
   induction l with
   | nil=>cases hm
   | cons x l ih =>
    show _ ∈ (if i < x.1 then (i,s) :: x :: l else if i = x.1 then (i,s) :: l else x :: Stg.put l i s)
    rcases List.mem_cons.1 hm with hm | hm
    ·split
     ·simp [hm]
     ·split
      ·rename_i _ h2;rw [<- hm] at h2;exact absurd h2.symm h
      ·simp [hm]
    ·have hm2:=ih (List.pairwise_cons.1 ho).2 hm
     split
     ·simp [hm]
     ·split
      ·simp [hm]
      ·simp [hm2]
  | none =>
   refine at_none fun x hx e=>?_
   rcases put_mem hx with rfl | hx
   ·exact h e.symm
   ·have:=at_of_mem ho hx
    rw [e,hj] at this
    cases this
def IsMp (w:World) (b:Nat) (l:Stg):Prop:=w.ownsMap Tryz.prog tIntE (plainElem Tryz.prog tStrE) b l.length (datL l)
theorem mp_norm {w:World} {b n:Nat} {l:Stg} (h:w.ownsMap Tryz.prog tIntE (plainElem Tryz.prog tStrE) b n (datL l)):IsMp w b l:=by
 obtain ⟨es,clock,hb,F,hs,hD⟩:=h
 refine ⟨es,clock,hb,F,?_,hD⟩
 have h1:=size_dat l
 rw [hD] at h1
 rw [<- h1]
 simp [Maps.size,length_sorted]
theorem IsMp.fr {S:Nat -> Prop} {w w':World} {b:Nat} {l:Stg} (h:IsMp w b l) (hf:Fr S w w') (hb:¬ S b):IsMp w' b l:=by
 obtain ⟨es,clock,h1,h2⟩:=h
 exact ⟨es,clock,(hf.block b (lt_of_block h1) hb).trans h1,h2⟩
theorem Tryz.keyInt:Keyed Tryz.prog tIntE:=int_keyed Tryz.underlying3
theorem Tryz.zeroStr (w:World):(zeroValue tStrE).run Tryz.prog w = .ok (.string ⟨#[]⟩) w:=by kernel_rfl
theorem key_int {i:Int} (h0:-9223372036854775808 <= i) (h1:i <= 9223372036854775807):keyOf Tryz.prog tIntE (.int .i64 i) = some (.int .i64 i):=keyOf_int_mk Tryz.underlying3 (WalkArith.wf_i64 ⟨h0,h1⟩)
theorem plain_str_inv {v:Value} {z:DataW Unit × List MemPlace} (h:plainElem Tryz.prog tStrE v = some z):∃ s:ByteArray,v = .string s /\ z.1 = .lit (.string s.data.toList):=by
 obtain ⟨s,rfl,rfl,_⟩:=plainElem_string_inv Tryz.underlying9 h
 exact ⟨s,rfl,rfl⟩
theorem lit_str {s t:ByteArray} (h:(DataW.lit (.string s.data.toList):DataW Unit) = .lit (.string t.data.toList)):s = t:=by
 simp only [DataW.lit.injEq,Lit.string.injEq] at h
 cases s;cases t
 simp at h
 rw [h]
theorem atKey_get (l:Stg) (i:Nat):(datL l).atKey (.int .i64 (i:Int)) (.lit (.string (⟨#[]⟩:ByteArray).data.toList)) = .lit (.string ((l.at i).getD ⟨#[]⟩).data.toList):=by
 rw [atKey_dat]
 cases l.at i <;> rfl
theorem mp_look {w:World} {b:Nat} {l:Stg} (h:IsMp w b l) (i:Nat) (hi:i <= 9223372036854775807) :
 (Instr.lookup tMap (.map (some b)) (.int .i64 (i:Int)) false).run Tryz.prog w = .ok (.string ((l.at i).getD ⟨#[]⟩)) w:=by
 obtain ⟨v,ps,hr,hv⟩:=World.ownsMap.lookup h Tryz.keyInt Tryz.underlying193 (Tryz.zeroStr w) (plainElem_string (H:=Unit) Tryz.underlying9 (s:=⟨#[]⟩) (by decide)) (key_int (i:=(i:Int)) (by omega) (by omega))
 obtain ⟨s,rfl,hs⟩:=plain_str_inv hv
 rw [show s = (l.at i).getD ⟨#[]⟩ from lit_str (hs.symm.trans (atKey_get l i))] at hr
 exact hr
theorem mp_look_ok {w:World} {b:Nat} {l:Stg} (h:IsMp w b l) (i:Nat) (hi:i <= 9223372036854775807) :
 (Instr.lookup tMap (.map (some b)) (.int .i64 (i:Int)) true).run Tryz.prog w = .ok (.tuple #[.string ((l.at i).getD ⟨#[]⟩),.bool (l.at i).isSome]) w:=by
 obtain ⟨v,ps,hr,hv⟩:=World.ownsMap.look_ok h Tryz.keyInt Tryz.underlying193 (Tryz.zeroStr w) (plainElem_string (H:=Unit) Tryz.underlying9 (s:=⟨#[]⟩) (by decide)) (key_int (i:=(i:Int)) (by omega) (by omega))
 obtain ⟨s,rfl,hs⟩:=plain_str_inv hv
 rw [show s = (l.at i).getD ⟨#[]⟩ from lit_str (hs.symm.trans (atKey_get l i)),has_dat] at hr
 exact hr
theorem mp_len {w:World} {b:Nat} {l:Stg} (h:IsMp w b l) (ty:TypeId):(Builtin.len_ #[tMap] ty #[.map (some b)]).run Tryz.prog w = .ok (.int .i64 l.length) w:=by
 have:=World.ownsMap.len h Tryz.underlying193 ty
 rwa [size_dat] at this
theorem mp_clear {w:World} {b:Nat} {l:Stg} (h:IsMp w b l) (ty:TypeId):∃ w',(Builtin.clear_ #[tMap] ty #[.map (some b)]).run Tryz.prog w = .ok (.tuple #[]) w' /\ IsMp w' b [] /\ Fr (· = b) w w':=by
 obtain ⟨es,clock,hb,F,hs,hD⟩:=h
 refine ⟨setBlock w b (.map #[] clock),?_,⟨#[],clock,heap_setBlock_same hb _,⟨by simp,stamped_empty clock,by simp⟩,Nat.le_refl _,rfl⟩,⟨rfl,rfl,rfl,by simp [setBlock],fun k _ hk=>heap_setBlock_other hb _ (fun e=>hk (by rw [e]))⟩⟩
 simp [Builtin.clear_,run_underlying Tryz.underlying193,MapKept.run_getObj_map hb,MapKept.run_setObj_map _ hb,Result.andThen]
 rfl
theorem mp_new (w:World):IsMp (w.alloc (.map #[] 0)) w.heap.size []:=World.ownsMap_made w Tryz.prog tIntE (plainElem Tryz.prog tStrE)
theorem mp_put {w w':World} {b:Nat} {l:Stg} (ho:l.Ok) {i:Nat} {s:ByteArray} (h:w'.ownsMap Tryz.prog tIntE (plainElem Tryz.prog tStrE) b (l.length + 1) ((datL l).put (.int .i64 (i:Int)) (.lit (.string s.data.toList)))) (hg:w.grownBy w' (some b)):IsMp w' b (l.put i s) /\ Fr (· = b) w w':=by
 rw [put_dat ho] at h
 exact ⟨mp_norm h,⟨hg.os,hg.tape,hg.output,hg.size,fun k hk hn=>hg.block k hk (fun e=>hn (Option.some.inj e))⟩⟩
end
end Go.Proofs.YtngalllaiphkhaaGreatDoor
