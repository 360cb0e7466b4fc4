import Derived.Test.YtngalllaiphkhaaGreatDoorYMR
import Derived.Lib.FieldsP
import Derived.Lib.TrimAscii
import Derived.Lib.TrimByte
namespace Go.Proofs.YtngalllaiphkhaaGreatDoor
abbrev SlotT:=Option (Nat × ByteArray)
structure TN where
 kind:Nat
 links:Nat
 data:List UInt8
 slots:List SlotT
 up:Nat
 held:Nat
def TN.free:TN:=⟨0,0,[],[],0,0⟩
abbrev Tr:=Nat -> TN
def setT (T:Tr) (n:Nat) (x:TN):Tr:=fun j=>if j = n then x else T j
def dot1:ByteArray:=⟨#[46]⟩
def dot2:ByteArray:=⟨#[46,46]⟩
def namedT (s:ByteArray):Bool:=decide (1 <= s.size) && decide (s.size <= 14) && s.data.toList.all (fun b=>b != 47 && b != 0) && decide (s ≠ dot1) && decide (s ≠ dot2)
def txtT (i:Nat) (s:ByteArray):List UInt8:=UInt8.ofNat (i % 256) :: UInt8.ofNat (i / 256 % 256) :: (s.data.toList ++ List.replicate (14 - s.size) 0)
def sltT:SlotT -> List UInt8
 | none=>List.replicate 16 0
 | some (i,s)=>txtT (i + 1) s
def drcT (x:TN):List UInt8:=txtT (x.up + 1) dot2 ++ x.slots.flatMap sltT
def dataT (x:TN):List UInt8:=if x.kind = 2 then drcT x else x.data
def nodeT (x:TN):Node:=if x.kind = 0 then Node.free else ⟨x.kind,x.links,dataT x⟩
def volT (T:Tr):Nat -> Node:=fun n=>nodeT (T n)
def isDirT (T:Tr) (n:Int):Bool:=decide (0 <= n /\ n < 32 /\ (T n.toNat).kind = 2)
def nameIs (s:ByteArray):SlotT -> Bool
 | some (_,t)=>decide (t = s)
 | none=>false
def entryT (x:TN) (s:ByteArray):Option Nat:=x.slots.findIdx? (nameIs s)
def inoT (x:TN) (k:Nat):Nat:=match x.slots.getD k none with | some (i,_)=>i | none=>0
def partsT (path:ByteArray):List ByteArray:=Lib.goFieldsP (fun c=>c == 47) path
def alongT (T:Tr):Nat -> List ByteArray -> Nat × Int
 | n,[]=>(n,0)
 | n,p :: l =>
  if (T n).kind ≠ 2 then (0,11) else if p = dot1 then alongT T n l else if p = dot2 then alongT T (T n).up l else if namedT p = false then (0,8) else
  match entryT (T n) p with
  | none=>(0,5)
  | some k=>alongT T (inoT (T n) k) l
def beginE (T:Tr) (from_:Int) (path:ByteArray):Int :=
 if path.size < 1 \/ 128 < path.size \/ path.data.toList.contains 0 = true then 8 else if path.data.toList.getD 0 0 = 47 then 0 else if isDirT T from_ = false then 1 else 0
def beginN (from_:Int) (path:ByteArray):Nat:=if path.data.toList.getD 0 0 = 47 then 0 else from_.toNat
def findT (T:Tr) (from_:Int) (path:ByteArray):Nat × Int :=
 if beginE T from_ path ≠ 0 then (0,beginE T from_ path) else alongT T (beginN from_ path) (partsT path)
def lastT (T:Tr) (from_:Int) (path:ByteArray):Nat × ByteArray × Int :=
 if beginE T from_ path ≠ 0 then (0,ByteArray.empty,beginE T from_ path) else
 let r:=alongT T (beginN from_ path) (partsT path).dropLast
 if r.2 ≠ 0 then (0,ByteArray.empty,r.2) else if (T r.1).kind ≠ 2 then (0,ByteArray.empty,11) else
 match (partsT path).getLast? with
 | none=>(0,ByteArray.empty,8)
 | some s=>if namedT s = false then (0,ByteArray.empty,8) else (r.1,s,0)
def putL (x:Nat × ByteArray):List SlotT -> List SlotT
 | []=>[some x]
 | none :: l=>some x :: l
 | some y :: l=>some y :: putL x l
def putT (T:Tr) (dir:Nat) (x:Nat × ByteArray):Tr:=setT T dir { T dir with slots:=putL x (T dir).slots }
def fitsT (m:Nat) (T:Tr):Bool:=decide (sumT (volT T) 32 + 9 <= m) && (List.range 32).all fun n=>decide ((T n).kind = 2 -> 16 * (1 + (T n).slots.length) <= 2368)
def firstT (T:Tr):Option Nat:=(List.range 32).find? fun n=>(T n).kind == 0
def makeU (T:Tr) (kind dir n:Nat) (s:ByteArray):Tr:=putT (setT T n ⟨kind,1,[],[],if kind = 2 then dir else 0,0⟩) dir (n,s)
def makeT (m:Nat) (T:Tr) (from_:Int) (path:ByteArray) (kind:Int):Int × Tr :=
 if kind ≠ 1 /\ kind ≠ 2 then (1,T) else
 let r:=lastT T from_ path
 if r.2.2 ≠ 0 then (r.2.2,T) else if (entryT (T r.1) r.2.1).isSome then (9,T) else
 match firstT T with
 | none=>(4,T)
 | some n=>if fitsT m (makeU T kind.toNat r.1 n r.2.1) then (0,makeU T kind.toNat r.1 n r.2.1) else (4,T)
def makeN (m:Nat) (T:Tr) (from_:Int) (path:ByteArray) (kind:Int):Nat:=if (makeT m T from_ path kind).1 = 0 then (firstT T).getD 0 else 0
def linkU (T:Tr) (n dir:Nat) (s:ByteArray):Tr:=putT (setT T n { T n with links:=(T n).links + 1 }) dir (n,s)
def linkT (m:Nat) (T:Tr) (from_:Int) (old path:ByteArray):Int × Tr :=
 let f:=findT T from_ old
 if f.2 ≠ 0 then (f.2,T) else if (T f.1).kind = 2 then (10,T) else
 let r:=lastT T from_ path
 if r.2.2 ≠ 0 then (r.2.2,T) else if (entryT (T r.1) r.2.1).isSome then (9,T) else
 if (T f.1).links = 255 then (15,T) else if fitsT m (linkU T f.1 r.1 r.2.1) then (0,linkU T f.1 r.1 r.2.1) else (4,T)
def sweepT (T:Tr) (n:Nat):Tr:=if (T n).links = 0 /\ (T n).held = 0 then setT T n TN.free else T
def emptyT (x:TN):Bool:=x.slots.all Option.isNone
def unlinkU (T:Tr) (dir k n:Nat):Tr :=
 let U:=setT T dir { T dir with slots:=(T dir).slots.set k none }
 sweepT (setT U n { U n with links:=(U n).links - 1 }) n
def unlinkT (T:Tr) (from_:Int) (path:ByteArray):Int × Tr :=
 let r:=lastT T from_ path
 if r.2.2 ≠ 0 then (r.2.2,T) else
 match entryT (T r.1) r.2.1 with
 | none=>(5,T)
 | some k =>
  let n:=inoT (T r.1) k
  if (T n).kind = 2 /\ (emptyT (T n) = false \/ 0 < (T n).held) then (12,T) else (0,unlinkU T r.1 k n)
def tfindE (T:Tr) (n:Int):Int:=if n < 0 \/ 31 < n then 1 else if (T n.toNat).kind = 0 then 5 else 0
def namesT (x:TN):List ByteArray:=x.slots.filterMap fun o=>o.map (·.2)
def listE (T:Tr) (n:Int):Int:=if tfindE T n ≠ 0 then tfindE T n else if (T n.toNat).kind ≠ 2 then 11 else 0
def listT (T:Tr) (n:Int):List ByteArray:=if listE T n ≠ 0 then [] else namesT (T n.toNat)
def rootT:TN:=⟨2,1,[],[],0,0⟩
def freshT:Tr:=setT (fun _=>TN.free) 0 rootT
def isN (n:Nat):SlotT -> Bool
 | some (i,_)=>i == n
 | none=>false
def cntD (n:Nat) (x:TN):Nat:=if x.kind = 2 then x.slots.countP (isN n) else 0
def cntT (T:Tr) (n:Nat):Nat -> Nat
 | 0=>0
 | k + 1=>cntT T n k + cntD n (T k)
def upsT (T:Tr):Nat -> Nat -> Nat
 | 0,n=>n
 | k + 1,n=>upsT T k (T n).up
structure TShape (T:Tr):Prop where
 root:(T 0).kind = 2
 rootUp:(T 0).up = 0
 kind:∀ n,n < 32 -> (T n).kind <= 2
 free:∀ n,n < 32 -> (T n).kind = 0 -> T n = TN.free
 file:∀ n,n < 32 -> (T n).kind = 1 -> (T n).slots = [] /\ (T n).up = 0 /\ (T n).data.length <= 2368
 dirD:∀ n,n < 32 -> (T n).kind = 2 -> (T n).data = []
 up:∀ n,n < 32 -> (T n).kind = 2 -> (T n).up < 32 /\ (T (T n).up).kind = 2
 slot:∀ d,d < 32 -> (T d).kind = 2 -> ∀ (k i:Nat) (s:ByteArray),(T d).slots[k]? = some (some (i,s)) -> i < 32 /\ (T i).kind ≠ 0 /\ namedT s = true /\ ((T i).kind = 2 -> (T i).up = d)
 once:∀ d,d < 32 -> (T d).kind = 2 -> ∀ (k k' i i':Nat) (s:ByteArray),(T d).slots[k]? = some (some (i,s)) -> (T d).slots[k']? = some (some (i',s)) -> k = k'
 size:∀ d,d < 32 -> (T d).kind = 2 -> 16 * (1 + (T d).slots.length) <= 2368
 rise:∀ n,n < 32 -> (T n).kind = 2 -> ∃ k,upsT T k n = 0
structure TInv (T:Tr):Prop extends TShape T where
 links:∀ n,n < 32 -> (T n).kind ≠ 0 -> (T n).links = cntT T n 32 + (if n = 0 then 1 else 0)
 one:∀ n,n < 32 -> (T n).kind = 2 -> (T n).links = 1
 small:∀ n,n < 32 -> (T n).links <= 255
 orphan:∀ n,n < 32 -> (T n).kind ≠ 0 -> (T n).links = 0 -> 0 < (T n).held
theorem size_list (s:ByteArray):s.data.toList.length = s.size:=rfl
theorem bytes_ext {s t:ByteArray} (h:s.data.toList = t.data.toList):s = t:=by
 cases s with | mk a=>cases t with | mk b =>
 have:a = b:=Array.toList_inj.1 h
 rw [this]
theorem named_iff {s:ByteArray}:namedT s = true ↔ 1 <= s.size /\ s.size <= 14 /\ (∀ b ∈ s.data.toList,b ≠ 47 /\ b ≠ 0) /\ s ≠ dot1 /\ s ≠ dot2:=by
 unfold namedT
 simp only [Bool.and_eq_true,decide_eq_true_eq,List.all_eq_true,bne_iff_ne,ne_eq]
 constructor
 ·rintro ⟨⟨⟨⟨a,b⟩,c⟩,d⟩,e⟩;exact ⟨a,b,c,d,e⟩
 ·rintro ⟨a,b,c,d,e⟩;exact ⟨⟨⟨⟨a,b⟩,c⟩,d⟩,e⟩
theorem txt_len {i:Nat} {s:ByteArray} (h:s.size <= 14):(txtT i s).length = 16:=by
 have:=size_list s
 simp only [txtT,List.length_cons,List.length_append,List.length_replicate]
 omega
def SlotOk:SlotT -> Prop
 | none=>True
 | some (i,s)=>i < 32 /\ namedT s = true
theorem slt_len {o:SlotT} (h:SlotOk o):(sltT o).length = 16:=by
 match o,h with
 | none,_=>simp [sltT]
 | some (i,s),h=>exact txt_len (named_iff.1 h.2).2.1
theorem flat_len:∀ {l:List SlotT},(∀ o ∈ l,SlotOk o) -> (l.flatMap sltT).length = 16 * l.length
 | [],_=>rfl
 | o :: l,h=>by
  rw [List.flatMap_cons,List.length_append,slt_len (h o (List.mem_cons_self ..)),flat_len (fun x hx=>h x (List.mem_cons_of_mem _ hx)),List.length_cons]
  omega
theorem dot2_size:dot2.size = 2:=rfl
theorem drc_len {x:TN} (h:∀ o ∈ x.slots,SlotOk o):(drcT x).length = 16 * (1 + x.slots.length):=by
 unfold drcT
 rw [List.length_append,txt_len (by rw [dot2_size];omega),flat_len h]
 omega
theorem flat_at:∀ {l:List SlotT},(∀ o ∈ l,SlotOk o) -> ∀ {k:Nat} {o:SlotT},l[k]? = some o -> ((l.flatMap sltT).drop (16 * k)).take 16 = sltT o
 | [],_,k,o,h=>by simp at h
 | a :: l,h,0,o,ho=>by
  simp only [List.getElem?_cons_zero,Option.some.injEq] at ho
  subst ho
  rw [List.flatMap_cons,Nat.mul_zero,List.drop_zero,List.take_append_of_le_length (by rw [slt_len (h a (List.mem_cons_self ..))];omega),List.take_of_length_le (by rw [slt_len (h a (List.mem_cons_self ..))];omega)]
 | a :: l,h,k + 1,o,ho=>by
  have ha:=slt_len (h a (List.mem_cons_self ..))
  rw [List.flatMap_cons,List.drop_append,ha,List.drop_of_length_le (by omega:(sltT a).length <= 16 * (k + 1)),List.nil_append,show 16 * (k + 1) - 16 = 16 * k by omega]
  exact flat_at (fun x hx=>h x (List.mem_cons_of_mem _ hx)) (by simpa using ho)
theorem drc_at {x:TN} (h:∀ o ∈ x.slots,SlotOk o) {k:Nat} {o:SlotT} (ho:x.slots[k]? = some o):((drcT x).drop (16 * (k + 1))).take 16 = sltT o:=by
 unfold drcT
 have ha:=txt_len (i:=x.up + 1) (s:=dot2) (by rw [dot2_size];omega)
 rw [List.drop_append,ha,List.drop_of_length_le (by omega),List.nil_append,show 16 * (k + 1) - 16 = 16 * k by omega]
 exact flat_at h ho
theorem drc_zero (x:TN):(drcT x).take 16 = txtT (x.up + 1) dot2:=by
 unfold drcT
 have ha:=txt_len (i:=x.up + 1) (s:=dot2) (by rw [dot2_size];omega)
 rw [List.take_append_of_le_length (by omega),List.take_of_length_le (by omega)]
def entI (s:ByteArray) (k:Nat):Int:=(twoAt s (16 * k):Int) - 1
def entS (s:ByteArray) (k:Nat):ByteArray:=⟨(Lib.trimRightB (s.extract (16 * k + 2) (16 * k + 16)).data.toList 0).toArray⟩
theorem byte_part {s:ByteArray} {l:List UInt8} {a i:Nat} (h:((s.data.toList.drop a).take 16) = l) (hi:i < 16):byteAt s (a + i) = (l.getD i 0).toNat:=by
 rw [byteAt_list,<- h,List.getD,List.getD,List.getElem?_take_of_lt hi,List.getElem?_drop]
theorem two_txt {s:ByteArray} {a i:Nat} {t:ByteArray} (h:(s.data.toList.drop a).take 16 = txtT i t) (hi:i < 65536):twoAt s a = i:=by
 unfold twoAt
 have h0:=byte_part h (i:=0) (by omega)
 have h1:=byte_part h (i:=1) (by omega)
 rw [Nat.add_zero] at h0
 rw [h0,h1]
 simp only [txtT,List.getD_cons_zero,List.getD_cons_succ]
 rw [u8_mod,u8_mod]
 exact two_join hi
theorem ext_part (s:ByteArray) (a:Nat):(s.extract (a + 2) (a + 16)).data.toList = ((s.data.toList.drop a).take 16).drop 2:=by
 rw [toList_extract,List.drop_take,List.drop_take,List.drop_drop]
 congr 1
 omega
theorem trim_name {t:ByteArray} (h:∀ b ∈ t.data.toList,b ≠ 0) (n:Nat):Lib.trimRightB (t.data.toList ++ List.replicate n 0) 0 = t.data.toList:=by
 rw [Lib.trimRightB_take _ 0 t.data.toList.length (by simp) ?_ ?_]
 ·rw [List.take_append_of_le_length (Nat.le_refl _),List.take_length]
 ·intro j b hj hb
  rw [List.getElem?_append_right hj] at hb
  exact (List.mem_replicate.1 (List.mem_of_getElem? hb)).2
 ·intro b h0 hb
  rw [List.getElem?_append_left (by omega)] at hb
  exact h b (List.mem_of_getElem? hb)
theorem ent_txt {s:ByteArray} {k i:Nat} {t:ByteArray} (h:(s.data.toList.drop (16 * k)).take 16 = txtT i t) (hi:i < 65536) (ht:∀ b ∈ t.data.toList,b ≠ 0):entI s k = (i:Int) - 1 /\ entS s k = t:=by
 refine ⟨by unfold entI;rw [two_txt h hi],bytes_ext ?_⟩
 unfold entS
 show Lib.trimRightB (s.extract (16 * k + 2) (16 * k + 16)).data.toList 0 = _
 rw [ext_part,h]
 show Lib.trimRightB (t.data.toList ++ List.replicate (14 - t.size) 0) 0 = _
 exact trim_name ht _
theorem ent_none {s:ByteArray} {k:Nat} (h:(s.data.toList.drop (16 * k)).take 16 = sltT none):entI s k = -1 /\ entS s k = ByteArray.empty:=by
 have h':(s.data.toList.drop (16 * k)).take 16 = txtT 0 ByteArray.empty:=by rw [h];rfl
 obtain ⟨a,b⟩:=ent_txt h' (by omega) (fun b hb=>by cases hb)
 exact ⟨by rw [a];rfl,b⟩
theorem dot2_nz:∀ b ∈ dot2.data.toList,b ≠ (0:UInt8):=by decide
theorem ent_first {x:TN} {s:ByteArray} (hs:s.data.toList = drcT x) (hu:x.up < 32):entI s 0 = x.up /\ entS s 0 = dot2:=by
 obtain ⟨a,b⟩:=ent_txt (s:=s) (k:=0) (i:=x.up + 1) (t:=dot2) (by rw [hs,Nat.mul_zero,List.drop_zero];exact drc_zero x) (by omega) dot2_nz
 exact ⟨by rw [a];omega,b⟩
theorem ent_some {x:TN} {s:ByteArray} (hs:s.data.toList = drcT x) (h:∀ o ∈ x.slots,SlotOk o) {k i:Nat} {t:ByteArray} (hk:x.slots[k]? = some (some (i,t))):entI s (k + 1) = i /\ entS s (k + 1) = t:=by
 obtain ⟨hi,ht⟩:=h _ (List.mem_of_getElem? hk)
 obtain ⟨a,b⟩:=ent_txt (s:=s) (k:=k + 1) (i:=i + 1) (t:=t) (by rw [hs];exact drc_at h hk) (by omega) (fun b hb=>((named_iff.1 ht).2.2.1 b hb).2)
 exact ⟨by rw [a];omega,b⟩
theorem ent_free {x:TN} {s:ByteArray} (hs:s.data.toList = drcT x) (h:∀ o ∈ x.slots,SlotOk o) {k:Nat} (hk:x.slots[k]? = some none):entI s (k + 1) = -1 /\ entS s (k + 1) = ByteArray.empty :=
 ent_none (by rw [hs];exact drc_at h hk)
theorem flat_set:∀ {l:List SlotT},(∀ o ∈ l,SlotOk o) -> ∀ {k:Nat} {o:SlotT},SlotOk o -> k < l.length -> splice (l.flatMap sltT) (16 * k) (sltT o) = (l.set k o).flatMap sltT
 | [],_,k,o,_,h=>by simp at h
 | a :: l,h,0,o,ho,_=>by
  have ha:=slt_len (h a (List.mem_cons_self ..))
  unfold splice
  rw [List.set_cons_zero,List.flatMap_cons,List.flatMap_cons,Nat.mul_zero,List.take_zero,List.nil_append,Nat.zero_add,slt_len ho,List.drop_append,ha,List.drop_of_length_le (by omega),List.nil_append,Nat.sub_self,List.drop_zero]
 | a :: l,h,k + 1,o,ho,hk=>by
  have ha:=slt_len (h a (List.mem_cons_self ..))
  have ih:=flat_set (l:=l) (fun x hx=>h x (List.mem_cons_of_mem _ hx)) ho (k:=k) (by simpa using hk)
  unfold splice at ih ⊢
  rw [List.set_cons_succ,List.flatMap_cons,List.flatMap_cons,<- ih,slt_len ho,List.take_append,List.drop_append,ha,List.take_of_length_le (by omega),List.drop_of_length_le (by omega),List.nil_append,show 16 * (k + 1) - 16 = 16 * k by omega,show 16 * (k + 1) + 16 - 16 = 16 * k + 16 by omega]
  simp only [List.append_assoc]
theorem flat_snoc {l:List SlotT} (h:∀ o ∈ l,SlotOk o) (o:SlotT):splice (l.flatMap sltT) (16 * l.length) (sltT o) = (l ++ [o]).flatMap sltT:=by
 unfold splice
 rw [<- flat_len h,List.take_length,List.drop_of_length_le (by omega),List.append_nil,List.flatMap_append]
 simp
theorem splice_behind {a b s:List UInt8} {k:Nat}:splice (a ++ b) (a.length + k) s = a ++ splice b k s:=by
 unfold splice
 rw [List.take_append,List.drop_append,List.take_of_length_le (by omega),show a.length + k - a.length = k by omega,show a.length + k + s.length - a.length = k + s.length by omega,List.drop_of_length_le (l:=a) (by omega),List.nil_append]
 simp only [List.append_assoc]
theorem drc_set {x:TN} (h:∀ o ∈ x.slots,SlotOk o) {k:Nat} {o:SlotT} (ho:SlotOk o) (hk:k < x.slots.length):splice (drcT x) (16 * (k + 1)) (sltT o) = drcT { x with slots:=x.slots.set k o }:=by
 unfold drcT
 have ha:=txt_len (i:=x.up + 1) (s:=dot2) (by rw [dot2_size];omega)
 rw [show 16 * (k + 1) = (txtT (x.up + 1) dot2).length + 16 * k by omega,splice_behind,flat_set h ho hk]
theorem drc_snoc {x:TN} (h:∀ o ∈ x.slots,SlotOk o) (o:SlotT):splice (drcT x) (16 * (x.slots.length + 1)) (sltT o) = drcT { x with slots:=x.slots ++ [o] }:=by
 unfold drcT
 have ha:=txt_len (i:=x.up + 1) (s:=dot2) (by rw [dot2_size];omega)
 rw [show 16 * (x.slots.length + 1) = (txtT (x.up + 1) dot2).length + 16 * x.slots.length by omega,splice_behind,flat_snoc h o]
def placeT:List SlotT -> Nat
 | []=>0
 | none :: _=>0
 | some _ :: l=>placeT l + 1
theorem put_place (x:Nat × ByteArray):∀ l:List SlotT,(placeT l < l.length /\ l[placeT l]? = some none /\ putL x l = l.set (placeT l) (some x)) \/ (placeT l = l.length /\ putL x l = l ++ [some x])
 | []=>.inr ⟨rfl,rfl⟩
 | none :: l=>.inl ⟨by simp [placeT],rfl,rfl⟩
 | some y :: l=>by
  rcases put_place x l with ⟨h1,h2,h3⟩ | ⟨h1,h2⟩
  ·exact .inl ⟨by simp only [placeT,List.length_cons];omega,by simpa [placeT] using h2,by simp only [putL,placeT,List.set_cons_succ,h3]⟩
  ·exact .inr ⟨by simp only [placeT,List.length_cons];omega,by simp only [putL,h2,List.cons_append]⟩
theorem place_ne:∀ {l:List SlotT} {j:Nat},j < placeT l -> ∃ y,l[j]? = some (some y)
 | [],j,h=>by simp [placeT] at h
 | none :: l,j,h=>by simp [placeT] at h
 | some y :: l,0,_=>⟨y,rfl⟩
 | some y :: l,j + 1,h=>by
  obtain ⟨z,hz⟩:=place_ne (l:=l) (j:=j) (by simp only [placeT] at h;omega)
  exact ⟨z,by simpa using hz⟩
theorem drc_put {x:TN} (h:∀ o ∈ x.slots,SlotOk o) {y:Nat × ByteArray} (hy:SlotOk (some y)):splice (drcT x) (16 * (placeT x.slots + 1)) (sltT (some y)) = drcT { x with slots:=putL y x.slots }:=by
 rcases put_place y x.slots with ⟨h1,_,h3⟩ | ⟨h1,h2⟩
 ·rw [h3];exact drc_set h hy h1
 ·rw [h1,h2];exact drc_snoc h _
theorem putL_length (y:Nat × ByteArray) (l:List SlotT):(putL y l).length = max l.length (placeT l + 1):=by
 rcases put_place y l with ⟨h1,_,h3⟩ | ⟨h1,h2⟩
 ·rw [h3,List.length_set];omega
 ·rw [h2,h1,List.length_append,List.length_singleton];omega
theorem putL_mem {y:Nat × ByteArray} {l:List SlotT} {o:SlotT} (h:o ∈ putL y l):o = some y \/ o ∈ l:=by
 rcases put_place y l with ⟨h1,_,h3⟩ | ⟨h1,h2⟩
 ·rw [h3] at h
  rcases List.mem_or_eq_of_mem_set h with h | h
  ·exact .inr h
  ·exact .inl h
 ·rw [h2] at h
  rcases List.mem_append.1 h with h | h
  ·exact .inr h
  ·exact .inl (List.mem_singleton.1 h)
theorem setT_same (T:Tr) (n:Nat) (x:TN):setT T n x n = x:=by unfold setT;rw [if_pos rfl]
theorem setT_other (T:Tr) {n j:Nat} (x:TN) (h:j ≠ n):setT T n x j = T j:=by unfold setT;rw [if_neg h]
theorem vol_set (T:Tr) (n:Nat) (x:TN):volT (setT T n x) = setA (volT T) n (nodeT x):=by
 funext j
 unfold volT setA setT
 split <;> rfl
theorem setA_twice (A:Nat -> Node) (n:Nat) (x y:Node):setA (setA A n x) n y = setA A n y:=by
 funext j
 unfold setA
 split <;> rfl
theorem nodeT_kind (x:TN):(nodeT x).kind = x.kind:=by
 unfold nodeT
 split
 ·next h=>exact h.symm
 ·rfl
theorem nodeT_some {x:TN} (h:x.kind ≠ 0):nodeT x = ⟨x.kind,x.links,dataT x⟩:=by unfold nodeT;rw [if_neg h]
theorem nodeT_dir {x:TN} (h:x.kind = 2):nodeT x = ⟨2,x.links,drcT x⟩:=by rw [nodeT_some (by omega)];unfold dataT;rw [if_pos h,h]
theorem first_vol (T:Tr):afirst (volT T) = firstT T:=by
 unfold afirst firstT
 congr 1
 funext n
 show ((nodeT (T n)).kind == 0) = _
 rw [nodeT_kind]
theorem find_vol (T:Tr) (n:Int):afindE (volT T) n = tfindE T n:=by
 unfold afindE tfindE
 show (if n < 0 \/ 32 <= n then (1:Int) else if (nodeT (T n.toNat)).kind = 0 then 5 else 0) = _
 rw [nodeT_kind]
 by_cases h:n < 0 \/ 32 <= n
 ·rw [if_pos h,if_pos (by omega)]
 ·have h2:¬ (n < 0 \/ 31 < n):=by omega
  rw [if_neg h,if_neg h2]
theorem tfind_ok {T:Tr} {n:Nat} (hn:n < 32) (h:(T n).kind ≠ 0):tfindE T n = 0:=by
 unfold tfindE
 rw [if_neg (by omega),Int.toNat_natCast,if_neg h]
section
variable {T:Tr} {m d:Nat}
structure DirOk (T:Tr) (d:Nat):Prop where
 lt:d < 32
 kind:(T d).kind = 2
 slots:∀ o ∈ (T d).slots,SlotOk o
 size:16 * (1 + (T d).slots.length) <= 2368
theorem DirOk.node (h:DirOk T d):volT T d = ⟨2,(T d).links,drcT (T d)⟩:=nodeT_dir h.kind
theorem DirOk.len (h:DirOk T d):(volT T d).data.length = 16 * (1 + (T d).slots.length):=by rw [h.node];exact drc_len h.slots
theorem DirOk.find (h:DirOk T d):afindE (volT T) d = 0:=by rw [find_vol];exact tfind_ok h.lt (by rw [h.kind];omega)
def txtB (i:Nat) (s:ByteArray):ByteArray:=⟨(txtT i s).toArray⟩
def noughtB:ByteArray:=⟨(List.replicate 16 0).toArray⟩
theorem txtB_size {i:Nat} {s:ByteArray} (h:s.size <= 14):(txtB i s).size = 16:=by
 show (txtT i s).toArray.size = 16
 rw [List.size_toArray,txt_len h]
theorem slot_put (h:DirOk T d) {y:Nat × ByteArray} (hy:SlotOk (some y)):∀ o ∈ putL y (T d).slots,SlotOk o:=fun o ho=>by
 rcases putL_mem ho with rfl | ho
 ·exact hy
 ·exact h.slots o ho
theorem sum_set (A:Nat -> Node) {n:Nat} (d:Node) (hn:n < 32):sumT (setA A n d) 32 + takesP (A n).data.length = sumT A 32 + takesP d.data.length:=sumT_set A d hn
theorem sectors_mono {a b:Nat} (h:a <= b):sectorsP a <= sectorsP b:=by unfold sectorsP;omega
theorem takes_mono {a b:Nat} (h:a <= b):takesP a <= takesP b:=by
 have:=sectors_mono h
 unfold takesP
 split <;> split <;> omega
def addE (m:Nat) (T:Tr) (d:Nat) (y:Nat × ByteArray):Int:=awriteE m (volT T) false d (16 * (placeT (T d).slots + 1):Nat) (txtB (y.1 + 1) y.2)
theorem place_le (l:List SlotT):placeT l <= l.length:=by rcases put_place (0,ByteArray.empty) l with ⟨h,_⟩ | ⟨h,_⟩ <;> omega
theorem add_goes (h:DirOk T d) {y:Nat × ByteArray} (hy:SlotOk (some y)) :
 awrite m (volT T) false d (16 * (placeT (T d).slots + 1):Nat) (txtB (y.1 + 1) y.2) = if addE m T d y = 0 then volT (putT T d y) else volT T:=by
 unfold awrite addE
 split
 ·unfold putT
  rw [vol_set,Int.toNat_natCast,Int.toNat_natCast,nodeT_dir (by exact h.kind),h.node]
  show setA _ d ⟨2,(T d).links,splice (drcT (T d)) _ (txtT _ _)⟩ = _
  rw [show txtT (y.1 + 1) y.2 = sltT (some y) from rfl,drc_put h.slots hy]
 ·rfl
theorem add_is (h:DirOk T d) {y:Nat × ByteArray} (hy:SlotOk (some y)) (hs:sumT (volT T) 32 + 9 <= m) :
 (addE m T d y = 0 \/ addE m T d y = 4 \/ addE m T d y = 15) /\ (addE m T d y = 0 ↔ (16 * (1 + (putL y (T d).slots).length) <= 2368 /\ sumT (volT (putT T d y)) 32 + 9 <= m)):=by
 have hl:=h.len
 have hpl:=place_le (T d).slots
 have hz:(txtB (y.1 + 1) y.2).size = 16:=txtB_size (named_iff.1 hy.2).2.1
 have hpu:=putL_length y (T d).slots
 have hsz:=h.size
 have hnew:(drcT { T d with slots:=putL y (T d).slots }).length = 16 * (1 + (putL y (T d).slots).length):=drc_len (slot_put h hy)
 have hsum:=sum_set (volT T) (nodeT { T d with slots:=putL y (T d).slots }) h.lt
 rw [<- vol_set,nodeT_dir (by exact h.kind)] at hsum
 rw [show (setT T d { T d with slots:=putL y (T d).slots }) = putT T d y from rfl] at hsum
 simp only [hnew] at hsum
 rw [hl] at hsum
 have hmax:max (16 * (1 + (T d).slots.length)) (16 * (placeT (T d).slots + 1) + 16) = 16 * (1 + (putL y (T d).slots).length):=by omega
 have hmono:=takes_mono (a:=16 * (1 + (T d).slots.length)) (b:=16 * (1 + (putL y (T d).slots).length)) (by omega)
 unfold addE awriteE
 rw [h.find,if_neg (by omega),Int.toNat_natCast,Int.toNat_natCast,hl,hz,if_neg (by omega),hmax]
 unfold aroom
 by_cases h1:(2368:Int) < (16 * (placeT (T d).slots + 1):Nat) + (16:Nat)
 ·rw [if_pos h1]
  exact ⟨.inr (.inr rfl),⟨fun e=>by omega,fun ⟨e,_⟩=>by omega⟩⟩
 ·rw [if_neg h1,if_neg Bool.false_ne_true]
  split
  ·next h2=>exact ⟨.inr (.inl rfl),⟨fun e=>by omega,fun ⟨_,e⟩=>by omega⟩⟩
  ·next h2=>exact ⟨.inl rfl,⟨fun _=>⟨by omega,by omega⟩,fun _=>rfl⟩⟩
theorem wipe_goes (h:DirOk T d) {k:Nat} (hk:k < (T d).slots.length) :
 awriteE m (volT T) false d (16 * (k + 1):Nat) noughtB = 0 /\ awrite m (volT T) false d (16 * (k + 1):Nat) noughtB = volT (setT T d { T d with slots:=(T d).slots.set k none }):=by
 have hl:=h.len
 have hsz:=h.size
 have hz:noughtB.size = 16:=rfl
 have hE:awriteE m (volT T) false d (16 * (k + 1):Nat) noughtB = 0:=by
  unfold awriteE
  rw [h.find,if_neg (by omega),Int.toNat_natCast,Int.toNat_natCast,hl,hz,if_neg (by omega),if_neg (by omega),if_neg Bool.false_ne_true,if_neg]
  rw [show max (16 * (1 + (T d).slots.length)) (16 * (k + 1) + 16) = 16 * (1 + (T d).slots.length) by omega]
  omega
 refine ⟨hE,?_⟩
 unfold awrite
 rw [if_pos hE,vol_set,Int.toNat_natCast,Int.toNat_natCast,nodeT_dir (by exact h.kind),h.node]
 show setA _ d ⟨2,(T d).links,splice (drcT (T d)) _ (sltT none)⟩ = _
 rw [drc_set h.slots (o:=none) trivial hk]
theorem link_vol {n:Nat} (hn:n < 32) (hk:(T n).kind ≠ 0) {by_:Int} (h1:-255 <= by_) (h2:by_ <= 255) (h3:0 <= (T n).links + by_) (h4:(T n).links + by_ <= 255) :
 alinkE (volT T) false n by_ = 0 /\ alink (volT T) false n by_ = volT (setT T n { T n with links:=((T n).links + by_).toNat }):=by
 have hv:volT T n = ⟨(T n).kind,(T n).links,dataT (T n)⟩:=nodeT_some hk
 have hE:alinkE (volT T) false n by_ = 0:=by
  unfold alinkE
  rw [find_vol,tfind_ok hn hk,if_neg (by omega),Int.toNat_natCast,hv,if_neg (by show ¬ (by_ < -255 \/ 255 < by_ \/ ((T n).links:Int) + by_ < 0 \/ 255 < ((T n).links:Int) + by_);omega),if_neg Bool.false_ne_true]
 refine ⟨hE,?_⟩
 unfold alink
 rw [if_pos hE,vol_set,Int.toNat_natCast,hv,nodeT_some (x:={ T n with links:=((T n).links + by_).toNat }) hk]
 rfl
theorem linkT_full {n:Nat} (hn:n < 32) (hk:(T n).kind ≠ 0) (h4:(T n).links = 255):alinkE (volT T) false n 1 = 15:=by
 have hv:volT T n = ⟨(T n).kind,(T n).links,dataT (T n)⟩:=nodeT_some hk
 unfold alinkE
 rw [find_vol,tfind_ok hn hk,if_neg (by omega),Int.toNat_natCast,hv,if_pos (by show (1:Int) < -255 \/ 255 < (1:Int) \/ ((T n).links:Int) + 1 < 0 \/ 255 < ((T n).links:Int) + 1;omega)]
theorem free_vol {n:Nat} (hn:n < 32) (hk:(T n).kind ≠ 0):afreeE (volT T) false n = 0 /\ afree (volT T) false n = volT (setT T n TN.free):=by
 have hE:afreeE (volT T) false n = 0:=by
  unfold afreeE
  rw [find_vol,tfind_ok hn hk,if_neg (by omega),if_neg Bool.false_ne_true]
 refine ⟨hE,?_⟩
 unfold afree
 rw [if_pos hE,vol_set,Int.toNat_natCast]
 rfl
def newX (kind dir:Nat):TN:=⟨kind,1,[],[],if kind = 2 then dir else 0,0⟩
theorem newX_file (dir:Nat):nodeT (newX 1 dir) = ⟨1,1,[]⟩:=rfl
theorem newX_dir (dir:Nat):nodeT (newX 2 dir) = ⟨2,1,txtT (dir + 1) dot2⟩:=by
 rw [nodeT_dir (x:=newX 2 dir) rfl]
 show Node.mk 2 1 (txtT (dir + 1) dot2 ++ []) = _
 rw [List.append_nil]
theorem first_goes {n dir:Nat} (hn:n < 32) (A:Nat -> Node) (hA:A n = ⟨2,1,[]⟩) :
 awriteE m A false n 0 (txtB (dir + 1) dot2) = (if aroom m A < 1 then 4 else 0) /\
 awrite m A false n 0 (txtB (dir + 1) dot2) = if aroom m A < 1 then A else setA A n (nodeT (newX 2 dir)):=by
 have hz:(txtB (dir + 1) dot2).size = 16:=txtB_size (by rw [dot2_size];omega)
 have hf:afindE A n = 0:=by
  unfold afindE
  rw [if_neg (by omega),Int.toNat_natCast,hA,if_neg (by decide)]
 have hE:awriteE m A false n 0 (txtB (dir + 1) dot2) = (if aroom m A < 1 then 4 else 0):=by
  unfold awriteE
  rw [hf,if_neg (by omega),Int.toNat_natCast,hA,hz]
  rw [if_neg (by show ¬ ((0:Int) < 0 \/ ((([]:List UInt8).length:Nat):Int) < 0 \/ 512 < 16);simp),if_neg (by omega),if_neg Bool.false_ne_true]
  show (if (aroom m A:Int) < ((takesP 16:Nat):Int) - (takesP 0:Nat) then (4:Int) else 0) = _
  rw [show takesP 16 = 1 from rfl,show takesP 0 = 0 from rfl]
  by_cases h:aroom m A < 1
  ·rw [if_pos h,if_pos (by omega)]
  ·rw [if_neg h,if_neg (by omega)]
 refine ⟨hE,?_⟩
 unfold awrite
 rw [hE]
 by_cases h:aroom m A < 1
 ·rw [if_pos h,if_pos h,if_neg (by decide)]
 ·rw [if_neg h,if_neg h,if_pos rfl,newX_dir,Int.toNat_natCast,hA]
  show setA A n ⟨2,1,splice [] 0 (txtT (dir + 1) dot2)⟩ = _
  unfold splice
  simp
end
theorem cnt_set (T:Tr) (n:Nat) {d:Nat} (x:TN):∀ {k:Nat},d < k -> cntT (setT T d x) n k + cntD n (T d) = cntT T n k + cntD n x:=by
 intro k hk
 induction k with
 | zero=>omega
 | succ k ih =>
  unfold cntT
  by_cases h:k = d
  ·subst h
   have hs:∀ j,j <= k -> cntT (setT T k x) n j = cntT T n j:=by
    intro j
    induction j with
    | zero=>intro _;rfl
    | succ j ihj =>
     intro hj
     unfold cntT
     rw [ihj (by omega),setT_other T x (by omega)]
   rw [hs k (Nat.le_refl _),setT_same]
   omega
  ·rw [setT_other T x h]
   have:=ih (by omega)
   omega
theorem cnt_zero {T:Tr} (n:Nat):∀ {k:Nat},(∀ j,j < k -> cntD n (T j) = 0) -> cntT T n k = 0
 | 0,_=>rfl
 | k + 1,h=>by
  unfold cntT
  rw [cnt_zero n (fun j hj=>h j (by omega)),h k (by omega)]
theorem cnt_ge {T:Tr} (n:Nat) {d:Nat}:∀ {k:Nat},d < k -> cntD n (T d) <= cntT T n k
 | 0,h=>by omega
 | k + 1,h=>by
  unfold cntT
  by_cases e:k = d
  ·subst e;omega
  ·have:=cnt_ge (T:=T) n (d:=d) (k:=k) (by omega)
   omega
theorem countP_set {p:SlotT -> Bool}:∀ {l:List SlotT} {k:Nat} {o x:SlotT},l[k]? = some o -> (l.set k x).countP p + (if p o then 1 else 0) = l.countP p + (if p x then 1 else 0)
 | [],k,o,x,h=>by simp at h
 | a :: l,0,o,x,h=>by
  simp only [List.getElem?_cons_zero,Option.some.injEq] at h
  subst h
  simp only [List.set_cons_zero,List.countP_cons]
  omega
 | a :: l,k + 1,o,x,h=>by
  have:=countP_set (p:=p) (l:=l) (k:=k) (o:=o) (x:=x) (by simpa using h)
  simp only [List.set_cons_succ,List.countP_cons]
  omega
theorem countP_put (n:Nat) (y:Nat × ByteArray) (l:List SlotT):(putL y l).countP (isN n) = l.countP (isN n) + (if y.1 = n then 1 else 0):=by
 have hy:isN n (some y) = (y.1 == n):=rfl
 rcases put_place y l with ⟨h1,h2,h3⟩ | ⟨h1,h2⟩
 ·rw [h3]
  have:=countP_set (p:=isN n) (x:=some y) h2
  rw [hy] at this
  simp only [isN,Bool.false_eq_true,if_false,beq_iff_eq] at this ⊢
  omega
 ·rw [h2,List.countP_append,List.countP_singleton,hy]
  simp only [beq_iff_eq]
theorem countP_pos {l:List SlotT} {n k:Nat} {s:ByteArray} (h:l[k]? = some (some (n,s))):1 <= l.countP (isN n) :=
 List.countP_pos_iff.2 ⟨_,List.mem_of_getElem? h,by simp [isN]⟩
section
variable {T:Tr} {m d:Nat}
theorem TShape.slots (h:TShape T) {d:Nat} (hd:d < 32) (hk:(T d).kind = 2):∀ o ∈ (T d).slots,SlotOk o:=fun o ho=>by
 match o,ho with
 | none,_=>trivial
 | some (i,s),ho =>
  obtain ⟨k,hk'⟩:=List.getElem?_of_mem ho
  obtain ⟨h1,_,h2,_⟩:=h.slot d hd hk k i s hk'
  exact ⟨h1,h2⟩
theorem TShape.dirOk (h:TShape T) {d:Nat} (hd:d < 32) (hk:(T d).kind = 2):DirOk T d:=⟨hd,hk,h.slots hd hk,h.size d hd hk⟩
theorem TShape.cnt_free (h:TShape T) {n:Nat} (hk:(T n).kind = 0):cntT T n 32 = 0:=cnt_zero n fun j hj=>by
 unfold cntD
 split
 ·next h2 =>
  refine List.countP_eq_zero.2 fun o ho=>?_
  match o,ho with
  | none,_=>simp [isN]
  | some (i,s),ho =>
   obtain ⟨k,hk'⟩:=List.getElem?_of_mem ho
   have:=(h.slot j hj h2 k i s hk').2.1
   simp only [isN,beq_iff_eq]
   rintro rfl
   exact this hk
 ·rfl
theorem TInv.named_pos (h:TInv T) {d k n:Nat} {s:ByteArray} (hd:d < 32) (hk:(T d).kind = 2) (hs:(T d).slots[k]? = some (some (n,s))):1 <= (T n).links:=by
 obtain ⟨h1,h2,_,_⟩:=h.slot d hd hk k n s hs
 have hl:=h.links n h1 h2
 have hc:=cnt_ge (T:=T) n (d:=d) (k:=32) hd
 have hp:=countP_pos hs
 unfold cntD at hc
 rw [if_pos hk] at hc
 omega
theorem ups_congr {U:Tr}:∀ (k n:Nat),(∀ j,j < k -> (U (upsT T j n)).up = (T (upsT T j n)).up) -> upsT U k n = upsT T k n
 | 0,_,_=>rfl
 | k + 1,n,h=>by
  have h0:(U n).up = (T n).up:=h 0 (by omega)
  unfold upsT
  rw [h0]
  exact ups_congr k _ fun j hj=>h (j + 1) (by omega)
theorem TShape.ups (h:TShape T):∀ (k:Nat) {n:Nat},n < 32 -> (T n).kind = 2 -> upsT T k n < 32 /\ (T (upsT T k n)).kind = 2
 | 0,n,hn,hk=>⟨hn,hk⟩
 | k + 1,n,hn,hk=>by
  obtain ⟨h1,h2⟩:=h.up n hn hk
  exact h.ups k h1 h2
end
section
variable {T:Tr} {m d n:Nat}
theorem setT_proj {α:Type} (f:TN -> α) {x:TN} (h:f x = f (T n)) (j:Nat):f (setT T n x j) = f (T j):=by
 unfold setT
 split
 ·next e=>rw [e,h]
 ·rfl
theorem entry_none {x:TN} {s:ByteArray} (h:entryT x s = none) {k i:Nat}:x.slots[k]? ≠ some (some (i,s)):=fun hk=>by
 have:=(List.findIdx?_eq_none_iff.1 h) _ (List.mem_of_getElem? hk)
 simp [nameIs] at this
theorem entry_some {x:TN} {s:ByteArray} {k:Nat} (h:entryT x s = some k):k < x.slots.length /\ x.slots[k]? = some (some (inoT x k,s)):=by
 obtain ⟨hk,hp,_⟩:=List.findIdx?_eq_some_iff_getElem.1 h
 refine ⟨hk,?_⟩
 have hg:=List.getElem?_eq_getElem hk
 unfold inoT
 rw [List.getD,hg]
 generalize x.slots[k] = o at *
 match o,hp with
 | none,hp=>simp [nameIs] at hp
 | some (i,t),hp =>
  simp only [nameIs,decide_eq_true_eq] at hp
  subst hp
  rfl
theorem put_at {y:Nat × ByteArray} {l:List SlotT} {k i:Nat} {s:ByteArray} (h:(putL y l)[k]? = some (some (i,s))):(k = placeT l /\ y = (i,s)) \/ (k ≠ placeT l /\ l[k]? = some (some (i,s))):=by
 rcases put_place y l with ⟨h1,_,h3⟩ | ⟨h1,h2⟩
 ·rw [h3,List.getElem?_set] at h
  split at h
  ·next e=>exact .inl ⟨e.symm,by simpa using h⟩
  ·next e=>exact .inr ⟨fun e'=>e e'.symm,h⟩
 ·rw [h2] at h
  by_cases hk:k < l.length
  ·rw [List.getElem?_append_left hk] at h
   exact .inr ⟨by omega,h⟩
  ·rw [List.getElem?_append_right (by omega)] at h
   have:k - l.length = 0:=Classical.byContradiction fun hc=>by
    rw [List.getElem?_eq_none (by simp;omega)] at h
    cases h
   rw [this] at h
   exact .inl ⟨by omega,by simpa using h⟩
theorem TShape.turn (h:TShape T) (hn:n < 32) {x:TN} (hk:x.kind = (T n).kind) (h0:(T n).kind ≠ 0) (hs:x.slots = (T n).slots) (hu:x.up = (T n).up)
 (hf:x.kind = 1 -> x.data.length <= 2368) (hd:x.kind = 2 -> x.data = []):TShape (setT T n x):=by
 have hkd:∀ j,(setT T n x j).kind = (T j).kind:=setT_proj (·.kind) hk
 have hsl:∀ j,(setT T n x j).slots = (T j).slots:=setT_proj (·.slots) hs
 have hup:∀ j,(setT T n x j).up = (T j).up:=setT_proj (·.up) hu
 refine ⟨by rw [hkd];exact h.root,by rw [hup];exact h.rootUp,fun j hj=>by rw [hkd];exact h.kind j hj,fun j hj e=>?_,fun j hj e=>?_,fun j hj e=>?_,fun j hj e=>?_,fun j hj e k i s hk'=>?_,fun j hj e k k' i i' s h1 h2=>?_,fun j hj e=>?_,fun j hj e=>?_⟩
 ·rw [hkd] at e
  by_cases hjn:j = n
  ·subst hjn;exact absurd e h0
  ·rw [setT_other T x hjn];exact h.free j hj e
 ·rw [hkd] at e
  rw [hsl,hup]
  obtain ⟨a,b,c⟩:=h.file j hj e
  refine ⟨a,b,?_⟩
  by_cases hjn:j = n
  ·subst hjn;rw [setT_same];exact hf (by rw [hk];exact e)
  ·rw [setT_other T x hjn];exact c
 ·rw [hkd] at e
  by_cases hjn:j = n
  ·subst hjn;rw [setT_same];exact hd (by rw [hk];exact e)
  ·rw [setT_other T x hjn];exact h.dirD j hj e
 ·rw [hkd] at e;rw [hup,hkd];exact h.up j hj e
 ·rw [hkd] at e;rw [hsl] at hk';rw [hkd,hup];exact h.slot j hj e k i s hk'
 ·rw [hkd] at e;rw [hsl] at h1 h2;exact h.once j hj e k k' i i' s h1 h2
 ·rw [hkd] at e;rw [hsl];exact h.size j hj e
 ·rw [hkd] at e
  obtain ⟨k,hk'⟩:=h.rise j hj e
  exact ⟨k,by rw [ups_congr (T:=T) k j fun i _=>hup _];exact hk'⟩
theorem TShape.entries (h:TShape T) (hd:d < 32) (hk:(T d).kind = 2) {l:List SlotT}
 (h1:∀ (k i:Nat) (s:ByteArray),l[k]? = some (some (i,s)) -> i < 32 /\ (T i).kind ≠ 0 /\ namedT s = true /\ ((T i).kind = 2 -> (T i).up = d))
 (h2:∀ (k k' i i':Nat) (s:ByteArray),l[k]? = some (some (i,s)) -> l[k']? = some (some (i',s)) -> k = k')
 (h3:16 * (1 + l.length) <= 2368):TShape (setT T d { T d with slots:=l }):=by
 have hkd:∀ j,(setT T d { T d with slots:=l } j).kind = (T j).kind:=setT_proj (·.kind) rfl
 have hup:∀ j,(setT T d { T d with slots:=l } j).up = (T j).up:=setT_proj (·.up) rfl
 refine ⟨by rw [hkd];exact h.root,by rw [hup];exact h.rootUp,fun j hj=>by rw [hkd];exact h.kind j hj,fun j hj e=>?_,fun j hj e=>?_,fun j hj e=>?_,fun j hj e=>?_,fun j hj e k i s hk'=>?_,fun j hj e k k' i i' s e1 e2=>?_,fun j hj e=>?_,fun j hj e=>?_⟩
 ·rw [hkd] at e
  have hjd:j ≠ d:=fun e'=>by subst e';omega
  rw [setT_other T _ hjd];exact h.free j hj e
 ·rw [hkd] at e
  have hjd:j ≠ d:=fun e'=>by subst e';omega
  rw [setT_other T _ hjd];exact h.file j hj e
 ·rw [hkd] at e
  by_cases hjd:j = d
  ·subst hjd;rw [setT_same];exact h.dirD j hj e
  ·rw [setT_other T _ hjd];exact h.dirD j hj e
 ·rw [hkd] at e;rw [hup,hkd];exact h.up j hj e
 ·rw [hkd] at e
  rw [hkd,hup]
  by_cases hjd:j = d
  ·subst hjd;rw [setT_same] at hk';exact h1 k i s hk'
  ·rw [setT_other T _ hjd] at hk';exact h.slot j hj e k i s hk'
 ·rw [hkd] at e
  by_cases hjd:j = d
  ·subst hjd;rw [setT_same] at e1 e2;exact h2 k k' i i' s e1 e2
  ·rw [setT_other T _ hjd] at e1 e2;exact h.once j hj e k k' i i' s e1 e2
 ·rw [hkd] at e
  by_cases hjd:j = d
  ·subst hjd;rw [setT_same];exact h3
  ·rw [setT_other T _ hjd];exact h.size j hj e
 ·rw [hkd] at e
  obtain ⟨k,hk'⟩:=h.rise j hj e
  exact ⟨k,by rw [ups_congr (T:=T) k j fun i _=>hup _];exact hk'⟩
theorem TShape.put (h:TShape T) (hd:d < 32) (hk:(T d).kind = 2) {n:Nat} {s:ByteArray} (hn:n < 32) (hk0:(T n).kind ≠ 0) (hs:namedT s = true) (hu:(T n).kind = 2 -> (T n).up = d)
 (he:entryT (T d) s = none) (hz:16 * (1 + (putL (n,s) (T d).slots).length) <= 2368):TShape (putT T d (n,s)):=by
 refine h.entries hd hk (fun k i t hkt=>?_) (fun k k' i i' t e1 e2=>?_) hz
 ·rcases put_at hkt with ⟨_,e⟩ | ⟨_,e⟩
  ·obtain ⟨rfl,rfl⟩:=Prod.mk.inj e
   exact ⟨hn,hk0,hs,hu⟩
  ·exact h.slot d hd hk k i t e
 ·rcases put_at e1 with ⟨a,b⟩ | ⟨a,b⟩ <;> rcases put_at e2 with ⟨a',b'⟩ | ⟨a',b'⟩
  ·omega
  ·obtain ⟨_,rfl⟩:=Prod.mk.inj b
   exact absurd b' (entry_none he)
  ·obtain ⟨_,rfl⟩:=Prod.mk.inj b'
   exact absurd b (entry_none he)
  ·exact h.once d hd hk k k' i i' t b b'
theorem TShape.new (h:TShape T) (hn:n < 32) (h0:(T n).kind = 0) {kind:Nat} (hkind:kind = 1 \/ kind = 2) (hd:d < 32) (hk:(T d).kind = 2):TShape (setT T n (newX kind d)):=by
 have hkd:∀ j,(T j).kind ≠ 0 -> (setT T n (newX kind d)) j = T j:=fun j hj=>setT_other T _ fun e=>by subst e;exact hj h0
 have hnn:(newX kind d).kind = kind:=rfl
 have hdn:d ≠ n:=fun e=>by subst e;omega
 refine ⟨by rw [hkd 0 (by rw [h.root];omega)];exact h.root,by rw [hkd 0 (by rw [h.root];omega)];exact h.rootUp,fun j hj=>?_,fun j hj e=>?_,fun j hj e=>?_,fun j hj e=>?_,fun j hj e=>?_,fun j hj e k i s hk'=>?_,fun j hj e k k' i i' s h1 h2=>?_,fun j hj e=>?_,fun j hj e=>?_⟩
 ·by_cases hjn:j = n
  ·subst hjn;rw [setT_same,hnn];omega
  ·rw [setT_other T _ hjn];exact h.kind j hj
 ·by_cases hjn:j = n
  ·subst hjn;rw [setT_same,hnn] at e;omega
  ·rw [setT_other T _ hjn] at e ⊢;exact h.free j hj e
 ·by_cases hjn:j = n
  ·subst hjn
   rw [setT_same] at e ⊢
   have e':kind = 1:=e
   subst e'
   exact ⟨rfl,rfl,Nat.zero_le _⟩
  ·rw [setT_other T _ hjn] at e ⊢;exact h.file j hj e
 ·by_cases hjn:j = n
  ·subst hjn;rw [setT_same];rfl
  ·rw [setT_other T _ hjn] at e ⊢;exact h.dirD j hj e
 ·by_cases hjn:j = n
  ·subst hjn
   rw [setT_same] at e ⊢
   have e':kind = 2:=e
   subst e'
   exact ⟨hd,by rw [hkd _ (by show (T d).kind ≠ 0;omega)];exact hk⟩
  ·rw [setT_other T _ hjn] at e ⊢
   obtain ⟨a,b⟩:=h.up j hj e
   exact ⟨a,by rw [hkd _ (by omega)];exact b⟩
 ·by_cases hjn:j = n
  ·subst hjn;rw [setT_same] at hk';simp [newX] at hk'
  ·rw [setT_other T _ hjn] at e hk'
   obtain ⟨a,b,c,f⟩:=h.slot j hj e k i s hk'
   rw [hkd i b]
   exact ⟨a,b,c,f⟩
 ·by_cases hjn:j = n
  ·subst hjn;rw [setT_same] at h1;simp [newX] at h1
  ·rw [setT_other T _ hjn] at e h1 h2;exact h.once j hj e k k' i i' s h1 h2
 ·by_cases hjn:j = n
  ·subst hjn;rw [setT_same];simp [newX]
  ·rw [setT_other T _ hjn] at e ⊢;exact h.size j hj e
 ·have hold:∀ j,j < 32 -> (T j).kind = 2 -> ∃ k,upsT (setT T n (newX kind d)) k j = 0:=fun j hj e=>by
   obtain ⟨k,hk'⟩:=h.rise j hj e
   exact ⟨k,by rw [ups_congr (T:=T) k j fun i _=>by rw [hkd _ (by have:=(h.ups i hj e).2;omega)]];exact hk'⟩
  by_cases hjn:j = n
  ·subst hjn
   rw [setT_same] at e
   have e':kind = 2:=e
   subst e'
   obtain ⟨k,hk'⟩:=hold d hd hk
   refine ⟨k + 1,?_⟩
   unfold upsT
   rw [setT_same]
   exact hk'
  ·rw [setT_other T _ hjn] at e
   exact hold j hj e
end
section
variable {T:Tr} {m d n:Nat}
theorem first_some (h:firstT T = some n):n < 32 /\ (T n).kind = 0:=by
 unfold firstT at h
 have h1:=List.find?_some h
 have h2:=List.mem_of_find?_eq_some h
 exact ⟨List.mem_range.1 h2,by simpa using h1⟩
theorem cntD_dir {x:TN} (h:x.kind = 2) (n:Nat):cntD n x = x.slots.countP (isN n):=by unfold cntD;rw [if_pos h]
theorem cntD_file {x:TN} (h:x.kind ≠ 2) (n:Nat):cntD n x = 0:=by unfold cntD;rw [if_neg h]
theorem cnt_put (T:Tr) (hd:d < 32) (hk:(T d).kind = 2) (y:Nat × ByteArray) (j:Nat):cntT (putT T d y) j 32 = cntT T j 32 + (if y.1 = j then 1 else 0):=by
 have h1:cntT (putT T d y) j 32 + cntD j (T d) = cntT T j 32 + cntD j { T d with slots:=putL y (T d).slots }:=cnt_set T j _ hd
 have h2:cntD j (T d) = (T d).slots.countP (isN j):=cntD_dir hk j
 have h3:cntD j { T d with slots:=putL y (T d).slots } = (putL y (T d).slots).countP (isN j):=cntD_dir (x:={ T d with slots:=putL y (T d).slots }) hk j
 rw [h2,h3,countP_put] at h1
 omega
theorem cnt_turn (T:Tr) {x:TN} (hn:n < 32) (hk:x.kind = (T n).kind) (hs:x.slots = (T n).slots) (j:Nat):cntT (setT T n x) j 32 = cntT T j 32:=by
 have:=cnt_set T j x (k:=32) hn
 have e:cntD j x = cntD j (T n):=by unfold cntD;rw [hk,hs]
 omega
theorem TInv.make (h:TInv T) (hd:d < 32) (hk:(T d).kind = 2) {s:ByteArray} (hs:namedT s = true) (he:entryT (T d) s = none) (hf:firstT T = some n) {kind:Nat} (hkind:kind = 1 \/ kind = 2)
 (hz:16 * (1 + (putL (n,s) (T d).slots).length) <= 2368):TInv (makeU T kind d n s):=by
 obtain ⟨hn,h0⟩:=first_some hf
 have hdn:d ≠ n:=fun e=>by subst e;omega
 have hTd:setT T n (newX kind d) d = T d:=setT_other T _ hdn
 have h1:TShape (setT T n (newX kind d)):=h.toTShape.new hn h0 hkind hd hk
 have h2:TShape (putT (setT T n (newX kind d)) d (n,s)):=h1.put hd (by rw [hTd];exact hk) hn (by rw [setT_same];show kind ≠ 0;omega) hs
  (fun e=>by rw [setT_same] at e ⊢;have e':kind = 2:=e;subst e';rfl) (by rw [hTd];exact he) (by rw [hTd];exact hz)
 have hc:∀ j,cntT (putT (setT T n (newX kind d)) d (n,s)) j 32 = cntT T j 32 + (if n = j then 1 else 0):=fun j=>by
  have h5:cntT (putT (setT T n (newX kind d)) d (n,s)) j 32 = cntT (setT T n (newX kind d)) j 32 + (if n = j then 1 else 0):=cnt_put _ hd (by rw [hTd];exact hk) (n,s) j
  have:=cnt_set T j (newX kind d) (k:=32) hn
  rw [cntD_file (x:=T n) (by omega)] at this
  have e:cntD j (newX kind d) = 0:=by unfold cntD newX;split <;> rfl
  omega
 have hput:∀ {α:Type} (f:TN -> α) (_:∀ l,f { setT T n (newX kind d) d with slots:=l } = f (setT T n (newX kind d) d)) (j:Nat),f (putT (setT T n (newX kind d)) d (n,s) j) = f (setT T n (newX kind d) j):=fun f hf j=>setT_proj f (hf _) j
 have hlk:∀ j,(putT (setT T n (newX kind d)) d (n,s) j).links = if j = n then 1 else (T j).links:=fun j=>by
  rw [hput (·.links) (fun _=>rfl)]
  by_cases hj:j = n
  ·subst hj;rw [setT_same,if_pos rfl];rfl
  ·rw [setT_other T _ hj,if_neg hj]
 have hkd:∀ j,(putT (setT T n (newX kind d)) d (n,s) j).kind = if j = n then kind else (T j).kind:=fun j=>by
  rw [hput (·.kind) (fun _=>rfl)]
  by_cases hj:j = n
  ·subst hj;rw [setT_same,if_pos rfl];rfl
  ·rw [setT_other T _ hj,if_neg hj]
 have hhd:∀ j,j ≠ n -> (putT (setT T n (newX kind d)) d (n,s) j).held = (T j).held:=fun j hj=>by
  rw [hput (·.held) (fun _=>rfl),setT_other T _ hj]
 have hn0:n ≠ 0:=fun e=>by subst e;have:=h.root;omega
 show TInv (putT (setT T n (newX kind d)) d (n,s))
 refine ⟨h2,fun j hj e=>?_,fun j hj e=>?_,fun j hj=>?_,fun j hj e1 e2=>?_⟩
 ·rw [hlk,hc]
  by_cases hjn:j = n
  ·subst hjn
   rw [if_pos rfl,if_pos rfl,if_neg hn0,h.toTShape.cnt_free h0]
  ·rw [if_neg hjn,if_neg (Ne.symm hjn)]
   rw [hkd,if_neg hjn] at e
   exact h.links j hj e
 ·rw [hlk]
  split
  ·rfl
  ·next hjn =>
   rw [hkd,if_neg hjn] at e
   exact h.one j hj e
 ·rw [hlk]
  split
  ·omega
  ·exact h.small j hj
 ·rw [hlk] at e2
  split at e2
  ·omega
  ·next hjn =>
   rw [hkd,if_neg hjn] at e1
   rw [hhd j hjn]
   exact h.orphan j hj e1 e2
theorem TInv.link (h:TInv T) (hd:d < 32) (hk:(T d).kind = 2) {s:ByteArray} (hs:namedT s = true) (he:entryT (T d) s = none) (hn:n < 32) (hk1:(T n).kind = 1) (hl:(T n).links ≠ 255)
 (hz:16 * (1 + (putL (n,s) (T d).slots).length) <= 2368):TInv (linkU T n d s):=by
 have hdn:d ≠ n:=fun e=>by subst e;omega
 obtain ⟨X,hX⟩:∃ X:TN,X = { T n with links:=(T n).links + 1 }:=⟨_,rfl⟩
 have xk:X.kind = (T n).kind:=by rw [hX]
 have xs:X.slots = (T n).slots:=by rw [hX]
 have xu:X.up = (T n).up:=by rw [hX]
 have xd:X.data = (T n).data:=by rw [hX]
 have xh:X.held = (T n).held:=by rw [hX]
 have xl:X.links = (T n).links + 1:=by rw [hX]
 have hgoal:linkU T n d s = putT (setT T n X) d (n,s):=by rw [hX];rfl
 rw [hgoal]
 clear hX hgoal
 have hTd:setT T n X d = T d:=setT_other T _ hdn
 obtain ⟨f1,f2,f3⟩:=h.file n hn hk1
 have h1:TShape (setT T n X):=h.toTShape.turn hn xk (by omega) xs xu (fun _=>by rw [xd];exact f3) (fun e=>by omega)
 have h2:TShape (putT (setT T n X) d (n,s)):=h1.put hd (by rw [hTd];exact hk) hn (by rw [setT_same];omega) hs
  (fun e=>by rw [setT_same] at e;omega) (by rw [hTd];exact he) (by rw [hTd];exact hz)
 have hc:∀ j,cntT (putT (setT T n X) d (n,s)) j 32 = cntT T j 32 + (if n = j then 1 else 0):=fun j=>by
  have h5:cntT (putT (setT T n X) d (n,s)) j 32 = cntT (setT T n X) j 32 + (if n = j then 1 else 0):=cnt_put _ hd (by rw [hTd];exact hk) (n,s) j
  rw [h5,cnt_turn T hn xk xs]
 have hput:∀ {α:Type} (f:TN -> α) (_:∀ l,f { setT T n X d with slots:=l } = f (setT T n X d)) (j:Nat),f (putT (setT T n X) d (n,s) j) = f (setT T n X j):=fun f hf j=>setT_proj f (hf _) j
 have hlk:∀ j,(putT (setT T n X) d (n,s) j).links = (T j).links + (if n = j then 1 else 0):=fun j=>by
  rw [hput (·.links) (fun _=>rfl)]
  by_cases hj:j = n
  ·subst hj;rw [setT_same,if_pos rfl,xl]
  ·rw [setT_other T _ hj,if_neg (Ne.symm hj)];rfl
 have hkd:∀ j,(putT (setT T n X) d (n,s) j).kind = (T j).kind:=fun j=>by
  rw [hput (·.kind) (fun _=>rfl)]
  exact setT_proj (·.kind) xk j
 have hhd:∀ j,(putT (setT T n X) d (n,s) j).held = (T j).held:=fun j=>by
  rw [hput (·.held) (fun _=>rfl)]
  exact setT_proj (·.held) xh j
 refine ⟨h2,fun j hj e=>?_,fun j hj e=>?_,fun j hj=>?_,fun j hj e1 e2=>?_⟩
 ·rw [hkd] at e
  rw [hlk,hc,h.links j hj e]
  omega
 ·rw [hkd] at e
  have hjn:n ≠ j:=fun e'=>by subst e';omega
  rw [hlk,if_neg hjn,h.one j hj e]
 ·rw [hlk]
  have:=h.small j hj
  split
  ·next e=>subst e;omega
  ·omega
 ·rw [hkd] at e1
  rw [hlk] at e2
  rw [hhd]
  exact h.orphan j hj e1 (by omega)
theorem fresh_inv:TInv freshT:=by
 have hk:∀ n,(freshT n).kind = if n = 0 then 2 else 0:=fun n=>by unfold freshT setT;split <;> rfl
 have hn0:∀ n,n ≠ 0 -> freshT n = TN.free:=fun n h=>setT_other _ _ h
 have h2:∀ n,(freshT n).kind = 2 -> n = 0:=fun n e=>Classical.byContradiction fun h=>by rw [hk,if_neg h] at e;omega
 have hs:∀ n,(freshT n).slots = []:=fun n=>by unfold freshT setT;split <;> rfl
 refine ⟨⟨rfl,rfl,fun n _=>?_,fun n _ e=>?_,fun n _ e=>?_,fun n _ e=>?_,fun n _ e=>?_,fun d _ e k i s hk'=>?_,fun d _ e k k' i i' s h1 _=>?_,fun d _ e=>?_,fun n _ e=>?_⟩,fun n _ e=>?_,fun n _ e=>?_,fun n _=>?_,fun n _ e1 e2=>?_⟩
 ·rw [hk];split <;> omega
 ·rw [hk] at e
  split at e
  ·omega
  ·next h=>exact hn0 n h
 ·rw [hk] at e;split at e <;> omega
 ·rw [h2 n e];rfl
 ·rw [h2 n e];exact ⟨by decide,rfl⟩
 ·rw [hs] at hk';simp at hk'
 ·rw [hs] at h1;simp at h1
 ·rw [hs];simp
 ·exact ⟨0,h2 n e⟩
 ·have hc:cntT freshT n 32 = 0:=cnt_zero n fun j _=>by unfold cntD;rw [hs];simp
  rw [hc]
  by_cases h:n = 0
  ·subst h;rfl
  ·rw [hk,if_neg h] at e;exact absurd rfl e
 ·rw [h2 n e];rfl
 ·by_cases h:n = 0
  ·subst h;show (1:Nat) <= 255;omega
  ·rw [hn0 n h];exact Nat.zero_le _
 ·by_cases h:n = 0
  ·subst h;exact absurd e2 (by decide)
  ·rw [hk,if_neg h] at e1;exact absurd rfl e1
end
section
variable {T U:Tr} {m d n:Nat}
theorem fits_iff:fitsT m U = true ↔ sumT (volT U) 32 + 9 <= m /\ ∀ j,j < 32 -> (U j).kind = 2 -> 16 * (1 + (U j).slots.length) <= 2368:=by
 unfold fitsT
 simp only [Bool.and_eq_true,decide_eq_true_eq,List.all_eq_true,List.mem_range]
theorem fits_put (h:∀ j,j < 32 -> j ≠ d -> (U j).kind = 2 -> 16 * (1 + (U j).slots.length) <= 2368) (hd:d < 32) (hk:(U d).kind = 2) (y:Nat × ByteArray) :
 fitsT m (putT U d y) = true ↔ 16 * (1 + (putL y (U d).slots).length) <= 2368 /\ sumT (volT (putT U d y)) 32 + 9 <= m:=by
 rw [fits_iff]
 constructor
 ·rintro ⟨h1,h2⟩
  refine ⟨?_,h1⟩
  have:=h2 d hd (by unfold putT;rw [setT_same];exact hk)
  unfold putT at this
  rw [setT_same] at this
  exact this
 ·rintro ⟨h1,h2⟩
  refine ⟨h2,fun j hj e=>?_⟩
  unfold putT at e ⊢
  by_cases hjd:j = d
  ·subst hjd;rw [setT_same];exact h1
  ·rw [setT_other U _ hjd] at e ⊢
   exact h j hj hjd e
theorem sum_put_ge (h:DirOk U d) {y:Nat × ByteArray} (hy:SlotOk (some y)):sumT (volT U) 32 <= sumT (volT (putT U d y)) 32:=by
 have hpu:=putL_length y (U d).slots
 have hnew:(drcT { U d with slots:=putL y (U d).slots }).length = 16 * (1 + (putL y (U d).slots).length):=drc_len (slot_put h hy)
 have hsum:=sum_set (volT U) (nodeT { U d with slots:=putL y (U d).slots }) h.lt
 rw [<- vol_set,nodeT_dir (by exact h.kind)] at hsum
 rw [show (setT U d { U d with slots:=putL y (U d).slots }) = putT U d y from rfl] at hsum
 simp only [hnew] at hsum
 rw [h.len] at hsum
 have hmono:=takes_mono (a:=16 * (1 + (U d).slots.length)) (b:=16 * (1 + (putL y (U d).slots).length)) (by omega)
 omega
theorem sum_file (hn:n < 32) (h0:T n = TN.free) (kind links:Nat):sumT (setA (volT T) n ⟨kind,links,[]⟩) 32 = sumT (volT T) 32:=by
 have:sumT (setA (volT T) n ⟨kind,links,[]⟩) 32 + takesP (volT T n).data.length = sumT (volT T) 32 + takesP ([]:List UInt8).length:=sum_set (volT T) ⟨kind,links,[]⟩ hn
 have e:(volT T n).data = []:=by unfold volT;rw [h0];rfl
 rw [e] at this
 omega
theorem sum_dir (hn:n < 32) (h0:T n = TN.free) (d:Nat):sumT (volT (setT T n (newX 2 d))) 32 = sumT (volT T) 32 + 1:=by
 have:=sum_set (volT T) (nodeT (newX 2 d)) hn
 rw [<- vol_set] at this
 have e:(volT T n).data = []:=by unfold volT;rw [h0];rfl
 have e2:(nodeT (newX 2 d)).data.length = 16:=by rw [newX_dir];exact txt_len (by rw [dot2_size];omega)
 rw [e,e2] at this
 have t16:takesP 16 = 1:=rfl
 have t0:takesP ([]:List UInt8).length = 0:=rfl
 omega
theorem TInv.new_dir (h:TInv T) (hd:d < 32) (hk:(T d).kind = 2) (h0:(T n).kind = 0) (x:TN):DirOk (setT T n x) d:=by
 have hdn:d ≠ n:=fun e=>by subst e;omega
 have e:setT T n x d = T d:=setT_other T _ hdn
 exact ⟨hd,by rw [e];exact hk,by rw [e];exact h.slots hd hk,by rw [e];exact h.size d hd hk⟩
theorem make_law (h:TInv T) (hd:d < 32) (hk:(T d).kind = 2) (hf:firstT T = some n) {s:ByteArray} (hs:namedT s = true) {kind:Nat} (hkind:kind = 1 \/ kind = 2) (hsum:sumT (volT T) 32 + 9 <= m) :
 (kind = 2 -> aroom m (setA (volT T) n ⟨2,1,[]⟩) < 1 -> fitsT m (makeU T kind d n s) = false) /\
 ((kind = 2 -> ¬ aroom m (setA (volT T) n ⟨2,1,[]⟩) < 1) -> (addE m (setT T n (newX kind d)) d (n,s) = 0 \/ addE m (setT T n (newX kind d)) d (n,s) = 4 \/ addE m (setT T n (newX kind d)) d (n,s) = 15) /\
  (fitsT m (makeU T kind d n s) = true ↔ addE m (setT T n (newX kind d)) d (n,s) = 0)):=by
 obtain ⟨hn,h0⟩:=first_some hf
 have hfr:=h.free n hn h0
 have hdok:=h.new_dir hd hk h0 (newX kind d)
 have hy:SlotOk (some (n,s)):=⟨hn,hs⟩
 have hge:=sum_put_ge hdok hy
 have hro:aroom m (setA (volT T) n ⟨2,1,[]⟩) = m - 9 - sumT (volT T) 32:=by unfold aroom;rw [sum_file hn hfr]
 have hmk:makeU T kind d n s = putT (setT T n (newX kind d)) d (n,s):=rfl
 constructor
 ·rintro rfl hr
  rw [sum_dir hn hfr] at hge
  refine Bool.eq_false_iff.2 fun hc=>?_
  have:=(fits_iff.1 hc).1
  rw [hmk] at this
  omega
 ·intro hr
  have hs1:sumT (volT (setT T n (newX kind d))) 32 + 9 <= m:=by
   rcases hkind with rfl | rfl
   ·rw [vol_set,newX_file,sum_file hn hfr];exact hsum
   ·have:=hr rfl
    rw [sum_dir hn hfr]
    omega
  obtain ⟨a1,a2⟩:=add_is hdok hy hs1
  refine ⟨a1,?_⟩
  rw [a2,hmk]
  refine fits_put (fun j hj hjd e=>?_) hd hdok.kind _
  by_cases hjn:j = n
  ·subst hjn;rw [setT_same];show 16 * (1 + 0) <= 2368;omega
  ·rw [setT_other T _ hjn] at e ⊢
   exact h.size j hj e
theorem link_law (h:TInv T) (hd:d < 32) (hk:(T d).kind = 2) (hn:n < 32) (hk1:(T n).kind = 1) {s:ByteArray} (hs:namedT s = true) (hsum:sumT (volT T) 32 + 9 <= m) :
 (addE m (setT T n { T n with links:=(T n).links + 1 }) d (n,s) = 0 \/ addE m (setT T n { T n with links:=(T n).links + 1 }) d (n,s) = 4 \/ addE m (setT T n { T n with links:=(T n).links + 1 }) d (n,s) = 15) /\
  (fitsT m (linkU T n d s) = true ↔ addE m (setT T n { T n with links:=(T n).links + 1 }) d (n,s) = 0):=by
 have hdn:d ≠ n:=fun e=>by subst e;omega
 obtain ⟨X,hX⟩:∃ X:TN,X = { T n with links:=(T n).links + 1 }:=⟨_,rfl⟩
 have hlu:linkU T n d s = putT (setT T n X) d (n,s):=by rw [hX];rfl
 have xk:X.kind = (T n).kind:=by rw [hX]
 have xd:dataT X = dataT (T n):=by rw [hX];rfl
 rw [hlu,<- hX]
 have e:setT T n X d = T d:=setT_other T _ hdn
 have hdok:DirOk (setT T n X) d:=⟨hd,by rw [e];exact hk,by rw [e];exact h.slots hd hk,by rw [e];exact h.size d hd hk⟩
 have hs1:sumT (volT (setT T n X)) 32 + 9 <= m:=by
  have:=sum_set (volT T) (nodeT X) hn
  rw [<- vol_set] at this
  have e1:(volT T n).data = (nodeT X).data:=by
   unfold volT
   rw [nodeT_some (x:=T n) (by omega),nodeT_some (x:=X) (by omega)]
   exact xd.symm
  rw [e1] at this
  omega
 obtain ⟨a1,a2⟩:=add_is hdok (y:=(n,s)) ⟨hn,hs⟩ hs1
 refine ⟨a1,?_⟩
 rw [a2]
 refine fits_put (fun j hj hjd e=>?_) hd hdok.kind _
 by_cases hjn:j = n
 ·subst hjn;rw [setT_same,xk] at e;omega
 ·rw [setT_other T _ hjn] at e ⊢
  exact h.size j hj e
end
end Go.Proofs.YtngalllaiphkhaaGreatDoor
