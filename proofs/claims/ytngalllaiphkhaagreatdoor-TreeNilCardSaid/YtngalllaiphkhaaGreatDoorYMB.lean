import Init
namespace Go.Proofs.YtngalllaiphkhaaGreatDoor
structure DSt where
 safe:List ByteArray
 wait:List (Nat × ByteArray)
 power:Int
 off:Bool
structure DSt.Ok (D:DSt):Prop where
 len:D.safe.length <= 544
 lo48:48 <= D.safe.length
 at_:∀ x ∈ D.wait,x.1 < D.safe.length
 size:∀ s ∈ D.safe,s.size = 64
 wsize:∀ x ∈ D.wait,x.2.size = 64
 lo:-1 <= D.power
 hi:D.power <= 9223372036854775807
def DSt.pay (D:DSt):DSt:={ D with power:=if 0 < D.power then D.power - 1 else D.power }
def DSt.die (D:DSt):DSt:={ D with off:=true }
def puts (l:List ByteArray) (w:List (Nat × ByteArray)):List ByteArray:=w.foldl (fun l x=>l.set x.1 x.2) l
def lastOf (w:List (Nat × ByteArray)) (i:Nat):Option ByteArray:=(w.reverse.find? (fun x=>x.1 == i)).map (·.2)
def DSt.sec (D:DSt) (i:Nat):ByteArray:=((lastOf D.wait i).or D.safe[i]?).getD ⟨#[]⟩
def DSt.readS (D:DSt) (i:Int):ByteArray:=if D.off = true then ⟨#[]⟩ else if i < 0 \/ (D.safe.length:Int) <= i then ⟨#[]⟩ else D.sec i.toNat
def DSt.readE (D:DSt) (i:Int):Int:=if D.off = true then 7 else if i < 0 \/ (D.safe.length:Int) <= i then 1 else 0
def DSt.writeE (D:DSt) (i:Int) (s:ByteArray):Int :=
 if D.off = true then 7 else if (i < 0 \/ (D.safe.length:Int) <= i) \/ s.size ≠ 64 then 1 else if D.power = 0 then 7 else 0
def DSt.write (D:DSt) (i:Int) (s:ByteArray):DSt :=
 if D.off = true then D else if (i < 0 \/ (D.safe.length:Int) <= i) \/ s.size ≠ 64 then D else if D.power = 0 then D.die else { D.pay with wait:=D.wait ++ [(i.toNat,s)] }
def DSt.flushE (D:DSt):Int:=if D.off = true then 7 else if D.power = 0 then 7 else 0
def DSt.flush (D:DSt):DSt :=
 if D.off = true then D else if D.power = 0 then D.die else { D.pay with safe:=puts D.safe D.wait,wait:=[] }
def kept (keep:Nat) (w:List (Nat × ByteArray)):List (Nat × ByteArray) :=
 (w.zipIdx.filter (fun x=>keep / 2 ^ (x.2 % 64) % 2 == 1)).map (·.1)
theorem puts_length (l:List ByteArray) (w:List (Nat × ByteArray)):(puts l w).length = l.length:=by
 unfold puts
 induction w generalizing l with
 | nil=>rfl
 | cons x w ih=>simp only [List.foldl_cons];rw [ih];simp
theorem puts_snoc (l:List ByteArray) (w:List (Nat × ByteArray)) (x:Nat × ByteArray):puts l (w ++ [x]) = (puts l w).set x.1 x.2:=by
 simp [puts]
theorem puts_take (l:List ByteArray) {w:List (Nat × ByteArray)} {k:Nat} {x:Nat × ByteArray} (h:w[k]? = some x):puts l (w.take (k + 1)) = (puts l (w.take k)).set x.1 x.2:=by
 rw [List.take_add_one,h]
 exact puts_snoc _ _ _
theorem lastOf_snoc (l:List (Nat × ByteArray)) (x:Nat × ByteArray) (i:Nat):lastOf (l ++ [x]) i = if x.1 = i then some x.2 else lastOf l i:=by
 unfold lastOf
 rw [List.reverse_append]
 simp only [List.reverse_cons,List.reverse_nil,List.nil_append,List.singleton_append,List.find?_cons]
 by_cases h:x.1 = i
 ·simp [h]
 ·rw [show (x.1 == i) = false from beq_eq_false_iff_ne.2 h,if_neg h]
theorem lastOf_cons (l:List (Nat × ByteArray)) (x:Nat × ByteArray) (i:Nat):lastOf (x :: l) i = (lastOf l i).or (if x.1 = i then some x.2 else none):=by
 unfold lastOf
 rw [List.reverse_cons,List.find?_append]
 by_cases h:x.1 = i
 ·cases List.find? (fun y:Nat × ByteArray=>y.1 == i) l.reverse <;> simp [h]
 ·cases List.find? (fun y:Nat × ByteArray=>y.1 == i) l.reverse <;> simp [h]
theorem lastOf_mem {l:List (Nat × ByteArray)} {i:Nat} {s:ByteArray} (h:lastOf l i = some s):(i,s) ∈ l:=by
 unfold lastOf at h
 rw [Option.map_eq_some_iff] at h
 obtain ⟨x,hx,rfl⟩:=h
 have h1:=List.find?_some hx
 have h2:=List.mem_of_find?_eq_some hx
 simp only [beq_iff_eq] at h1
 subst h1
 simpa using h2
theorem lastOf_none_of {l:List (Nat × ByteArray)} {i:Nat} (h:∀ x ∈ l,x.1 ≠ i):lastOf l i = none:=by
 cases hl:lastOf l i with
 | none=>rfl
 | some s=>exact absurd rfl (h _ (lastOf_mem hl))
theorem puts_get (l:List ByteArray) (w:List (Nat × ByteArray)) (j:Nat) (hj:j < l.length):(puts l w)[j]? = (lastOf w j).or l[j]?:=by
 induction w generalizing l with
 | nil=>simp [puts,lastOf]
 | cons x w ih =>
  have:=ih (l.set x.1 x.2) (by simpa using hj)
  show (puts (l.set x.1 x.2) w)[j]? = _
  rw [this,lastOf_cons]
  cases lastOf w j with
  | some s=>simp
  | none =>
   by_cases h:x.1 = j
   ·subst h;simp [hj]
   ·simp [h,List.getElem?_set_ne h]
theorem DSt.write_bad {D:DSt} (h0:D.off = false) {i:Int} {s:ByteArray} (h1:(i < 0 \/ (D.safe.length:Int) <= i) \/ s.size ≠ 64):D.write i s = D /\ D.writeE i s = 1:=by
 unfold DSt.write DSt.writeE
 rw [h0,if_pos h1,if_pos h1]
 simp
theorem DSt.flush_on {D:DSt} (h0:D.off = false) (hp:D.power = -1):D.flush = { D with safe:=puts D.safe D.wait,wait:=[] } /\ D.flushE = 0:=by
 unfold DSt.flush DSt.flushE DSt.pay
 rw [h0,hp]
 simp
theorem DSt.read_on {D:DSt} (h0:D.off = false) {i:Int} (hi:0 <= i) (hl:i < D.safe.length):D.readS i = D.sec i.toNat /\ D.readE i = 0:=by
 unfold DSt.readS DSt.readE
 have h1:¬ (i < 0 \/ (D.safe.length:Int) <= i):=by omega
 rw [h0,if_neg h1,if_neg h1]
 simp
theorem DSt.sec_cases (D:DSt) {i:Nat} (hi:i < D.safe.length):(∃ s,D.safe[i]? = some s /\ D.sec i = s /\ lastOf D.wait i = none) \/ (∃ s,(i,s) ∈ D.wait /\ D.sec i = s /\ lastOf D.wait i = some s):=by
 unfold DSt.sec
 cases h:lastOf D.wait i with
 | none=>exact .inl ⟨D.safe[i],List.getElem?_eq_getElem hi,by simp [hi],rfl⟩
 | some s=>exact .inr ⟨s,lastOf_mem h,rfl,rfl⟩
theorem DSt.sec_eq (D:DSt) (i:Nat):D.sec i = ((lastOf D.wait i).or D.safe[i]?).getD ⟨#[]⟩:=by simp [DSt.sec]
theorem lastOf_eq (w:List (Nat × ByteArray)) (i:Nat):lastOf w i = (w.reverse.find? (fun x=>x.1 == i)).map (·.2):=by simp [lastOf]
def twoB (h:Nat):List UInt8:=[UInt8.ofNat (h % 256),UInt8.ofNat (h / 256 % 256)]
def headL (l:List Nat):List UInt8:=UInt8.ofNat l.length :: (l.flatMap twoB ++ List.replicate (63 - 2 * l.length) 0)
def headP (l:List Nat):ByteArray:=⟨(headL l).toArray⟩
def byteAt (s:ByteArray) (i:Nat):Nat:=(s.data.toList.getD i 0).toNat
def homeAt (s:ByteArray) (i:Nat):Nat:=byteAt s (1 + 2 * i) + 256 * byteAt s (2 + 2 * i)
def rising (s:ByteArray) (most:Int) (n:Nat):Bool:=(List.range n).all fun i=>decide ((homeAt s i:Int) < most) && (i == 0 || decide (homeAt s (i - 1) < homeAt s i))
def homesP (s:ByteArray) (most:Int):Option (List Nat) :=
 if byteAt s 0 <= 30 /\ rising s most (byteAt s 0) = true /\ headP ((List.range (byteAt s 0)).map (homeAt s)) = s then some ((List.range (byteAt s 0)).map (homeAt s)) else none
theorem flat_length (l:List Nat):(l.flatMap twoB).length = 2 * l.length:=by
 induction l with
 | nil=>rfl
 | cons h l ih=>rw [List.flatMap_cons,List.length_append,ih];simp [twoB];omega
theorem headL_length {l:List Nat} (h:l.length <= 30):(headL l).length = 64:=by
 unfold headL
 rw [List.length_cons,List.length_append,flat_length,List.length_replicate]
 omega
theorem headP_size {l:List Nat} (h:l.length <= 30):(headP l).size = 64:=by
 show (headL l).toArray.size = 64
 simp [headL_length h]
theorem flat_get {l:List Nat} {i h:Nat} (hi:l[i]? = some h):(l.flatMap twoB)[2 * i]? = some (UInt8.ofNat (h % 256)) /\ (l.flatMap twoB)[2 * i + 1]? = some (UInt8.ofNat (h / 256 % 256)):=by
 induction l generalizing i with
 | nil=>simp at hi
 | cons x l ih =>
  cases i with
  | zero=>simp at hi;subst hi;simp [twoB]
  | succ i =>
   have:=ih (i:=i) (by simpa using hi)
   simpa [twoB,Nat.mul_add,Nat.add_right_comm] using this
theorem headP_at0 {l:List Nat} (h:l.length <= 30):byteAt (headP l) 0 = l.length:=by
 unfold byteAt headP headL
 simp [Nat.mod_eq_of_lt (show l.length < 256 by omega)]
theorem headP_home {l:List Nat} {i h:Nat} (hi:l[i]? = some h) (hh:h < 65536):homeAt (headP l) i = h:=by
 have hil:i < l.length:=(List.getElem?_eq_some_iff.1 hi).1
 obtain ⟨e1,e2⟩:=flat_get hi
 unfold homeAt byteAt headP headL
 have f1:(UInt8.ofNat l.length :: (l.flatMap twoB ++ List.replicate (63 - 2 * l.length) 0)).getD (1 + 2 * i) 0 = UInt8.ofNat (h % 256):=by
  rw [List.getD,Nat.add_comm,List.getElem?_cons_succ,List.getElem?_append_left (by rw [flat_length];omega),e1]
  rfl
 have f2:(UInt8.ofNat l.length :: (l.flatMap twoB ++ List.replicate (63 - 2 * l.length) 0)).getD (2 + 2 * i) 0 = UInt8.ofNat (h / 256 % 256):=by
  rw [List.getD,show 2 + 2 * i = (2 * i + 1) + 1 by omega,List.getElem?_cons_succ,List.getElem?_append_left (by rw [flat_length];omega),e2]
  rfl
 show (List.getD (UInt8.ofNat l.length :: (l.flatMap twoB ++ List.replicate (63 - 2 * l.length) 0)) (1 + 2 * i) 0).toNat + 256 * (List.getD (UInt8.ofNat l.length :: (l.flatMap twoB ++ List.replicate (63 - 2 * l.length) 0)) (2 + 2 * i) 0).toNat = h
 rw [f1,f2,UInt8.toNat_ofNat',UInt8.toNat_ofNat']
 omega
def Rises (l:List Nat):Prop:=l.Pairwise (· < ·)
theorem homesP_head {l:List Nat} {most:Int} (hl:l.length <= 30) (hr:Rises l) (hm:∀ h ∈ l,(h:Int) < most) (hh:∀ h ∈ l,h < 65536):homesP (headP l) most = some l:=by
 have h0:=headP_at0 hl
 have hmap:(List.range l.length).map (homeAt (headP l)) = l:=by
  apply List.ext_getElem?
  intro i
  rw [List.getElem?_map]
  by_cases hi:i < l.length
  ·rw [List.getElem?_range hi,List.getElem?_eq_getElem hi]
   exact congrArg some (headP_home (List.getElem?_eq_getElem hi) (hh _ (List.getElem_mem hi)))
  ·rw [List.getElem?_eq_none (by simpa using hi),List.getElem?_eq_none (by omega)]
   rfl
 have hri:rising (headP l) most l.length = true:=by
  unfold rising
  rw [List.all_eq_true]
  intro i hi
  have hi:i < l.length:=List.mem_range.1 hi
  have e1:=headP_home (List.getElem?_eq_getElem hi) (hh _ (List.getElem_mem hi))
  rw [Bool.and_eq_true,Bool.or_eq_true,beq_iff_eq,decide_eq_true_iff,decide_eq_true_iff,e1]
  refine ⟨hm _ (List.getElem_mem hi),?_⟩
  by_cases h:i = 0
  ·exact .inl h
  ·right
   have e2:=headP_home (List.getElem?_eq_getElem (show i - 1 < l.length by omega)) (hh _ (List.getElem_mem _))
   rw [e2]
   exact List.pairwise_iff_getElem.1 hr (i - 1) i (by omega) hi (by omega)
 unfold homesP
 rw [h0,hmap,if_pos ⟨hl,hri,rfl⟩]
theorem homesP_some {s:ByteArray} {most:Int} {l:List Nat} (h:homesP s most = some l):l.length <= 30 /\ Rises l /\ (∀ h ∈ l,(h:Int) < most) /\ headP l = s:=by
 unfold homesP at h
 split at h
 ·rename_i hc
  obtain ⟨h1,h2,h3⟩:=hc
  simp only [Option.some.injEq] at h
  subst h
  unfold rising at h2
  rw [List.all_eq_true] at h2
  refine ⟨by simpa using h1,?_,?_,h3⟩
  ·have key:∀ i,i < byteAt s 0 -> (homeAt s i:Int) < most /\ (i = 0 \/ homeAt s (i - 1) < homeAt s i):=by
    intro i hi
    have:=h2 i (List.mem_range.2 hi)
    simpa using this
   have mono:∀ j i,i < j -> j < byteAt s 0 -> homeAt s i < homeAt s j:=by
    intro j
    induction j with
    | zero=>intro i hi;omega
    | succ j ih =>
     intro i hi hj
     have h4:=(key (j + 1) hj).2
     simp at h4
     by_cases hij:i = j
     ·subst hij;exact h4
     ·exact Nat.lt_trans (ih i (by omega) (by omega)) h4
   unfold Rises
   rw [List.pairwise_iff_getElem]
   intro i j hi hj hij
   simp only [List.getElem_map,List.getElem_range]
   exact mono j i hij (by simpa using hj)
  ·intro h hh
   obtain ⟨i,hi,rfl⟩:=List.mem_map.1 hh
   have:=h2 i hi
   simp only [Bool.and_eq_true,decide_eq_true_iff] at this
   exact this.1
 ·cases h
abbrev Stg:=List (Nat × ByteArray)
def Stg.at (l:Stg) (i:Nat):Option ByteArray:=(l.find? (fun x=>x.1 == i)).map (·.2)
def Stg.put:Stg -> Nat -> ByteArray -> Stg
 | [],i,s=>[(i,s)]
 | x :: l,i,s=>if i < x.1 then (i,s) :: x :: l else if i = x.1 then (i,s) :: l else x :: Stg.put l i s
def Stg.Ok (l:Stg):Prop:=l.Pairwise (fun x y=>x.1 < y.1)
inductive DAct where
 | write (i:Nat) (s:ByteArray)
 | flush
def DSt.actE (D:DSt):DAct -> Int
 | .write i s=>D.writeE i s
 | .flush=>D.flushE
def DSt.act1 (D:DSt):DAct -> DSt
 | .write i s=>D.write i s
 | .flush=>D.flush
def DSt.acts (D:DSt):List DAct -> DSt
 | []=>D
 | a :: l=>if D.actE a = 0 then (D.act1 a).acts l else D.act1 a
def DSt.actsE (D:DSt):List DAct -> Int
 | []=>0
 | a :: l=>if D.actE a = 0 then (D.act1 a).actsE l else D.actE a
theorem DSt.acts_cons (D:DSt) (a:DAct) (l:List DAct):D.acts (a :: l) = if D.actE a = 0 then (D.act1 a).acts l else D.act1 a:=rfl
theorem DSt.actsE_cons (D:DSt) (a:DAct) (l:List DAct):D.actsE (a :: l) = if D.actE a = 0 then (D.act1 a).actsE l else D.actE a:=rfl
theorem DSt.acts_append (D:DSt) (l k:List DAct):D.acts (l ++ k) = if D.actsE l = 0 then (D.acts l).acts k else D.acts l:=by
 induction l generalizing D with
 | nil=>simp [DSt.acts,DSt.actsE]
 | cons a l ih =>
  rw [List.cons_append,DSt.acts_cons]
  by_cases h:D.actE a = 0
  ·have e1:D.actsE (a :: l) = (D.act1 a).actsE l:=by rw [DSt.actsE_cons,if_pos h]
   have e2:D.acts (a :: l) = (D.act1 a).acts l:=by rw [DSt.acts_cons,if_pos h]
   rw [if_pos h,e1,e2];exact ih _
  ·have e1:D.actsE (a :: l) = D.actE a:=by rw [DSt.actsE_cons,if_neg h]
   have e2:D.acts (a :: l) = D.act1 a:=by rw [DSt.acts_cons,if_neg h]
   rw [if_neg h,e1,e2,if_neg h]
theorem DSt.actsE_append (D:DSt) (l k:List DAct):D.actsE (l ++ k) = if D.actsE l = 0 then (D.acts l).actsE k else D.actsE l:=by
 induction l generalizing D with
 | nil=>simp [DSt.acts,DSt.actsE]
 | cons a l ih =>
  rw [List.cons_append,DSt.actsE_cons]
  by_cases h:D.actE a = 0
  ·have e1:D.actsE (a :: l) = (D.act1 a).actsE l:=by rw [DSt.actsE_cons,if_pos h]
   have e2:D.acts (a :: l) = (D.act1 a).acts l:=by rw [DSt.acts_cons,if_pos h]
   rw [if_pos h,e1,e2];exact ih _
  ·have e1:D.actsE (a :: l) = D.actE a:=by rw [DSt.actsE_cons,if_neg h]
   rw [if_neg h,e1,if_neg h]
def sealA (l:List Nat):List DAct:=[.flush,.write 1 (headP l),.flush]
def installA (l:Stg):List DAct:=l.map (fun x=>.write (32 + x.1) x.2) ++ sealA []
def stageA (l:Stg):List DAct:=l.zipIdx.map (fun p=>.write (2 + p.2) p.1.2)
def commitA (l:Stg):List DAct:=stageA l ++ (sealA (l.map (·.1)) ++ installA l)
def DSt.held (D:DSt) (l:List Nat):Stg:=l.zipIdx.map (fun p=>(p.1,D.sec (2 + p.2)))
structure LSt where
 D:DSt
 stg:Stg
 dead:Bool
def DSt.openE (D:DSt):Int :=
 if D.readE 1 ≠ 0 then D.readE 1 else match homesP (D.readS 1) ((D.safe.length:Int) - 32) with
  | none=>6
  | some l=>if l = [] then 0 else D.actsE (installA (D.held l))
def DSt.opened (D:DSt):DSt :=
 if D.readE 1 ≠ 0 then D else match homesP (D.readS 1) ((D.safe.length:Int) - 32) with
  | none=>D
  | some l=>if l = [] then D else D.acts (installA (D.held l))
def LSt.mayE (L:LSt) (i:Int):Int:=if L.dead = true then 7 else if i < 0 \/ (L.D.safe.length:Int) - 32 <= i then 1 else 0
def LSt.getS (L:LSt) (i:Int):ByteArray:=if L.mayE i ≠ 0 then ⟨#[]⟩ else match L.stg.at i.toNat with | some s=>s | none=>L.D.readS (32 + i)
def LSt.getE (L:LSt) (i:Int):Int:=if L.mayE i ≠ 0 then L.mayE i else match L.stg.at i.toNat with | some _=>0 | none=>L.D.readE (32 + i)
def LSt.setE (L:LSt) (i:Int) (s:ByteArray):Int:=if L.mayE i ≠ 0 then L.mayE i else if s.size ≠ 64 then 1 else if L.stg.at i.toNat = none /\ L.stg.length = 30 then 4 else 0
def LSt.set (L:LSt) (i:Int) (s:ByteArray):LSt:=if L.setE i s ≠ 0 then L else { L with stg:=L.stg.put i.toNat s }
def LSt.count (L:LSt):Nat:=if L.dead = true then 0 else L.stg.length
def LSt.abort (L:LSt):LSt:={ L with stg:=[] }
def LSt.commitE (L:LSt):Int:=if L.dead = true then 7 else if L.stg = [] then 0 else L.D.actsE (commitA L.stg)
def LSt.commit (L:LSt):LSt:=if L.dead = true then L else if L.stg = [] then L else
 if L.D.actsE (commitA L.stg) = 0 then ⟨L.D.acts (commitA L.stg),[],false⟩ else ⟨L.D.acts (commitA L.stg),L.stg,true⟩
structure Sw where
 safe:List ByteArray
 wait:List (Nat × ByteArray)
def DSt.sw (D:DSt):Sw:=⟨D.safe,D.wait⟩
def Sw.step (x:Sw):DAct -> Sw
 | .write i s=>⟨x.safe,x.wait ++ [(i,s)]⟩
 | .flush=>⟨puts x.safe x.wait,[]⟩
def Sw.run (x:Sw) (l:List DAct):Sw:=l.foldl Sw.step x
def DAct.Fits (n:Nat):DAct -> Prop
 | .write i s=>i < n /\ s.size = 64
 | .flush=>True
theorem step_safe (x:Sw) (a:DAct):(x.step a).safe.length = x.safe.length:=by
 cases a with
 | write i s=>rfl
 | flush=>exact puts_length _ _
theorem run_safe (x:Sw) (l:List DAct):(x.run l).safe.length = x.safe.length:=by
 induction l generalizing x with
 | nil=>rfl
 | cons a l ih=>exact (ih (x.step a)).trans (step_safe x a)
theorem run_append (x:Sw) (l k:List DAct):x.run (l ++ k) = (x.run l).run k:=by simp [Sw.run]
def DSt.left (D:DSt) (n:Nat):Prop:=D.power = -1 \/ (n:Int) <= D.power
theorem act_ok {D:DSt} {a:DAct} (h0:D.off = false) (hf:a.Fits D.safe.length) (hp:D.power ≠ 0):D.actE a = 0 /\ D.act1 a = { D.pay with safe:=(D.sw.step a).safe,wait:=(D.sw.step a).wait }:=by
 cases a with
 | write i s =>
  obtain ⟨h1,h2⟩:=hf
  have hc:¬ (((i:Int) < 0 \/ (D.safe.length:Int) <= (i:Int)) \/ s.size ≠ 64):=by omega
  constructor
  ·show D.writeE i s = 0
   unfold DSt.writeE
   rw [if_neg (by simp [h0]),if_neg hc,if_neg hp]
  ·show D.write i s = _
   unfold DSt.write
   rw [if_neg (by simp [h0]),if_neg hc,if_neg hp]
   simp [DSt.sw,Sw.step,DSt.pay]
 | flush =>
  constructor
  ·show D.flushE = 0
   unfold DSt.flushE
   rw [if_neg (by simp [h0]),if_neg hp]
  ·show D.flush = _
   unfold DSt.flush
   rw [if_neg (by simp [h0]),if_neg hp]
   simp [DSt.sw,Sw.step,DSt.pay]
theorem act_dies {D:DSt} {a:DAct} (h0:D.off = false) (hf:a.Fits D.safe.length) (hp:D.power = 0):D.actE a = 7 /\ D.act1 a = D.die:=by
 cases a with
 | write i s =>
  obtain ⟨h1,h2⟩:=hf
  have hc:¬ (((i:Int) < 0 \/ (D.safe.length:Int) <= (i:Int)) \/ s.size ≠ 64):=by omega
  constructor
  ·show D.writeE i s = 7
   unfold DSt.writeE
   rw [if_neg (by simp [h0]),if_neg hc,if_pos hp]
  ·show D.write i s = _
   unfold DSt.write
   rw [if_neg (by simp [h0]),if_neg hc,if_pos hp]
 | flush =>
  constructor
  ·show D.flushE = 7
   unfold DSt.flushE
   rw [if_neg (by simp [h0]),if_pos hp]
  ·show D.flush = _
   unfold DSt.flush
   rw [if_neg (by simp [h0]),if_pos hp]
theorem acts_run {D:DSt} {l:List DAct} (h0:D.off = false) (hf:∀ a ∈ l,a.Fits D.safe.length) (hp:-1 <= D.power) :
 (D.left l.length /\ D.actsE l = 0 /\ (D.acts l).off = false /\ (D.acts l).sw = D.sw.run l /\ ((D.acts l).power = if D.power = -1 then -1 else D.power - l.length)) \/
 (¬ D.left l.length /\ D.actsE l = 7 /\ (D.acts l).off = true /\ ∃ k,k < l.length /\ (D.acts l).sw = D.sw.run (l.take k)):=by
 induction l generalizing D with
 | nil =>
  left
  refine ⟨?_,rfl,h0,rfl,?_⟩
  ·unfold DSt.left;simp;omega
  ·show D.power = _
   split <;> simp_all
 | cons a l ih =>
  have hfa:=hf a (by simp)
  by_cases hz:D.power = 0
  ·right
   obtain ⟨e1,e2⟩:=act_dies h0 hfa hz
   refine ⟨?_,?_,?_,0,by simp,?_⟩
   ·unfold DSt.left;simp;omega
   ·show (if D.actE a = 0 then _ else D.actE a) = 7
    rw [if_neg (by omega),e1]
   ·show (if D.actE a = 0 then (D.act1 a).acts l else D.act1 a).off = true
    rw [if_neg (by omega),e2];rfl
   ·show (if D.actE a = 0 then (D.act1 a).acts l else D.act1 a).sw = _
    rw [if_neg (by omega),e2];rfl
  ·obtain ⟨e1,e2⟩:=act_ok h0 hfa hz
   have hl:(D.act1 a).safe.length = D.safe.length:=by rw [e2];exact step_safe D.sw a
   have ho:(D.act1 a).off = false:=by rw [e2];exact h0
   have hsw:(D.act1 a).sw = D.sw.step a:=by rw [e2];rfl
   have hpw:(D.act1 a).power = if D.power = -1 then -1 else D.power - 1:=by
    rw [e2]
    show (if 0 < D.power then D.power - 1 else D.power) = _
    split <;> split <;> omega
   have hA:D.acts (a :: l) = (D.act1 a).acts l:=by show (if D.actE a = 0 then _ else _) = _;rw [if_pos e1]
   have hE:D.actsE (a :: l) = (D.act1 a).actsE l:=by show (if D.actE a = 0 then _ else _) = _;rw [if_pos e1]
   rw [hA,hE]
   rcases ih ho (fun b hb=>by rw [hl];exact hf b (by simp [hb])) (by rw [hpw];split <;> omega) with ⟨h1,h2,h3,h4,h5⟩ | ⟨h1,h2,h3,k,h4,h5⟩
   ·left
    refine ⟨?_,h2,h3,by rw [h4,hsw];rfl,?_⟩
    ·unfold DSt.left at h1 ⊢
     rw [hpw] at h1
     simp only [List.length_cons]
     split at h1 <;> omega
    ·rw [h5,hpw]
     simp only [List.length_cons]
     split <;> split <;> omega
   ·right
    refine ⟨?_,h2,h3,k + 1,by simpa using h4,?_⟩
    ·unfold DSt.left at h1 ⊢
     rw [hpw] at h1
     simp only [List.length_cons]
     split at h1 <;> omega
    ·rw [h5,hsw];rfl
def Along (P:Sw -> Prop):Sw -> List DAct -> Prop
 | x,[]=>P x
 | x,a :: l=>P x /\ Along P (x.step a) l
theorem Along.take {P:Sw -> Prop} {x:Sw} {l:List DAct} (h:Along P x l) (k:Nat):P (x.run (l.take k)):=by
 induction l generalizing x k with
 | nil=>rw [List.take_nil];exact h
 | cons a l ih =>
  cases k with
  | zero=>exact h.1
  | succ k=>exact ih h.2 k
theorem Along.append {P:Sw -> Prop} {x:Sw} {l k:List DAct} (h:Along P x l) (h2:Along P (x.run l) k):Along P x (l ++ k):=by
 induction l generalizing x with
 | nil=>exact h2
 | cons a l ih=>exact ⟨h.1,ih h.2 h2⟩
theorem along_writes {P:Sw -> Prop} {S:List ByteArray} {w:List (Nat × ByteArray)} (xs:List (Nat × ByteArray)) (h:∀ k,k <= xs.length -> P ⟨S,w ++ xs.take k⟩):Along P ⟨S,w⟩ (xs.map fun x=>.write x.1 x.2):=by
 induction xs generalizing w with
 | nil=>have h0:=h 0 (Nat.le_refl _);rw [List.take_zero,List.append_nil] at h0;exact h0
 | cons x xs ih =>
  refine ⟨by simpa using h 0 (Nat.zero_le _),?_⟩
  show Along P ⟨S,w ++ [(x.1,x.2)]⟩ _
  refine ih fun k hk=>?_
  have:=h (k + 1) (by simpa using hk)
  simpa using this
theorem run_writes {S:List ByteArray} {w:List (Nat × ByteArray)} (xs:List (Nat × ByteArray)):Sw.run ⟨S,w⟩ (xs.map fun x=>.write x.1 x.2) = ⟨S,w ++ xs⟩:=by
 induction xs generalizing w with
 | nil=>simp [Sw.run]
 | cons x xs ih =>
  show Sw.run ⟨S,w ++ [(x.1,x.2)]⟩ _ = _
  rw [ih];simp
def over (H:Nat -> ByteArray) (l:Stg) (j:Nat):ByteArray:=(l.at j).getD (H j)
def keys (l:Stg):List Nat:=l.map (·.1)
structure Stg.Good (m:Nat) (l:Stg):Prop where
 ok:l.Ok
 len:l.length <= 30
 lt:∀ x ∈ l,x.1 < m
 size:∀ x ∈ l,x.2.size = 64
theorem at_mem {l:Stg} {j:Nat} {s:ByteArray} (h:l.at j = some s):(j,s) ∈ l:=by
 unfold Stg.at at h
 rw [Option.map_eq_some_iff] at h
 obtain ⟨x,hx,rfl⟩:=h
 have h1:=List.find?_some hx
 have h2:=List.mem_of_find?_eq_some hx
 simp only [beq_iff_eq] at h1
 subst h1
 exact h2
theorem at_of_mem {l:Stg} (ho:l.Ok) {x:Nat × ByteArray} (h:x ∈ l):l.at x.1 = some x.2:=by
 unfold Stg.at
 induction l with
 | nil=>cases h
 | cons y l ih =>
  rw [List.find?_cons]
  rcases List.mem_cons.1 h with rfl | h
  ·simp
  ·have h1:y.1 < x.1:=(List.pairwise_cons.1 ho).1 x h
   rw [show (y.1 == x.1) = false from beq_eq_false_iff_ne.2 (by omega)]
   exact ih (List.pairwise_cons.1 ho).2 h
theorem at_none {l:Stg} {j:Nat} (h:∀ x ∈ l,x.1 ≠ j):l.at j = none:=by
 cases hj:l.at j with
 | none=>rfl
 | some s=>exact absurd rfl (h _ (at_mem hj))
def Held (l:Stg) (S:List ByteArray):Prop:=∀ (k:Nat) (p:Nat × ByteArray),l[k]? = some p -> S[2 + k]? = some p.2
section
variable {n m:Nat} {H:Nat -> ByteArray} {l:Stg}
structure StA (m:Nat) (H:Nat -> ByteArray) (x:Sw):Prop where
 head:x.safe[1]? = some (headP [])
 home:∀ j,j < m -> x.safe[32 + j]? = some (H j)
 wait:∀ y ∈ x.wait,2 <= y.1 /\ y.1 < 32
structure StB (m:Nat) (H:Nat -> ByteArray) (l:Stg) (x:Sw):Prop where
 head:x.safe[1]? = some (headP [])
 home:∀ j,j < m -> x.safe[32 + j]? = some (H j)
 held:Held l x.safe
 wait:∀ y ∈ x.wait,y = (1,headP (keys l))
structure StC (m:Nat) (H:Nat -> ByteArray) (l:Stg) (x:Sw):Prop where
 head:x.safe[1]? = some (headP (keys l))
 home:∀ j,j < m -> x.safe[32 + j]? = some (H j) \/ ∃ s,l.at j = some s /\ x.safe[32 + j]? = some s
 held:Held l x.safe
 wait:∀ y ∈ x.wait,∃ j s,l.at j = some s /\ y = (32 + j,s)
structure StE (m:Nat) (H:Nat -> ByteArray) (l:Stg) (x:Sw):Prop where
 head:x.safe[1]? = some (headP (keys l))
 home:∀ j,j < m -> x.safe[32 + j]? = some (over H l j)
 held:Held l x.safe
 wait:∀ y ∈ x.wait,y = (1,headP [])
def Good (m:Nat) (H:Nat -> ByteArray) (l:Stg) (x:Sw):Prop:=StA m H x \/ StB m H l x \/ StC m H l x \/ StE m H l x \/ StA m (over H l) x
theorem puts_at {S:List ByteArray} {w:List (Nat × ByteArray)} {j:Nat} {s:ByteArray} (hj:S[j]? = some s) (h:∀ y ∈ w,y.1 ≠ j):(puts S w)[j]? = some s:=by
 rw [puts_get _ _ _ (List.getElem?_eq_some_iff.1 hj).1,lastOf_none_of h,hj];rfl
theorem puts_hit {S:List ByteArray} {w:List (Nat × ByteArray)} {j:Nat} {s:ByteArray} (hj:j < S.length) (h:∃ y ∈ w,y.1 = j) (hs:∀ y ∈ w,y.1 = j -> y.2 = s):(puts S w)[j]? = some s:=by
 rw [puts_get _ _ _ hj]
 cases hl:lastOf w j with
 | none =>
  obtain ⟨y,hy,e⟩:=h
  exfalso
  rw [lastOf_eq,Option.map_eq_none_iff,List.find?_eq_none] at hl
  exact hl y (List.mem_reverse.2 hy) (by simpa using e)
 | some t=>rw [<- hs _ (lastOf_mem hl) rfl];rfl
theorem get_lt {S:List ByteArray} {j:Nat} {s:ByteArray} (h:S[j]? = some s):j < S.length:=(List.getElem?_eq_some_iff.1 h).1
theorem held_at (hg:l.Good m) {k:Nat} {p:Nat × ByteArray} (h:l[k]? = some p):2 + k < 32:=by
 have:=(List.getElem?_eq_some_iff.1 h).1
 have:=hg.len
 omega
theorem install_along (hg:l.Good m) (hm:32 + m = n) {S:List ByteArray} (hn:S.length = n) (h:StC m H l ⟨S,[]⟩) :
 Along (Good m H l) ⟨S,[]⟩ (installA l) /\ StA m (over H l) (Sw.run ⟨S,[]⟩ (installA l)) /\ (Sw.run ⟨S,[]⟩ (installA l)).wait = []:=by
 have hxs:l.map (fun x=>DAct.write (32 + x.1) x.2) = (l.map (fun x=>(32 + x.1,x.2))).map (fun x=>.write x.1 x.2):=by rw [List.map_map];rfl
 have hC:∀ w:List (Nat × ByteArray),(∀ y ∈ w,y ∈ l.map (fun x=>(32 + x.1,x.2))) -> StC m H l ⟨S,w⟩:=fun w hw =>
  ⟨h.head,h.home,h.held,fun y hy=>by
   obtain ⟨x,hx,rfl⟩:=List.mem_map.1 (hw y hy)
   exact ⟨x.1,x.2,at_of_mem hg.ok hx,rfl⟩⟩
 have h1:S.length > 1:=get_lt h.head
 -- behind the first flush
 have hE:∀ w:List (Nat × ByteArray),(∀ y ∈ w,y = (1,headP [])) -> StE m H l ⟨puts S (l.map (fun x=>(32 + x.1,x.2))),w⟩:=fun w hw =>
  ⟨puts_at h.head fun y hy e=>by obtain ⟨x,_,rfl⟩:=List.mem_map.1 hy;simp at e;omega,fun j hj=>by
   have hlt:32 + j < S.length:=by omega
   cases hl:l.at j with
   | some s =>
    have hmem:=at_mem hl
    unfold over
    rw [hl]
    refine puts_hit hlt ⟨_,List.mem_map.2 ⟨_,hmem,rfl⟩,rfl⟩ fun y hy e=>?_
    obtain ⟨x,hx,rfl⟩:=List.mem_map.1 hy
    obtain rfl:x.1 = j:=by simp at e;omega
    have:=at_of_mem hg.ok hx
    rw [hl] at this
    exact (Option.some.inj this).symm
   | none =>
    unfold over
    rw [hl]
    have hh:S[32 + j]? = some (H j):=by
     rcases h.home j hj with h | ⟨s,h,_⟩
     ·exact h
     ·rw [hl] at h;cases h
    refine puts_at hh fun y hy e=>?_
    obtain ⟨x,hx,rfl⟩:=List.mem_map.1 hy
    obtain rfl:x.1 = j:=by simp at e;omega
    have:=at_of_mem hg.ok hx
    rw [hl] at this
    exact (nomatch this),
   fun k p hk=>puts_at (h.held k p hk) fun y hy e=>by
    have:=held_at hg hk
    obtain ⟨x,_,rfl⟩:=List.mem_map.1 hy
    simp at e;omega,hw⟩
 have hF:StA m (over H l) ⟨puts (puts S (l.map (fun x=>(32 + x.1,x.2)))) [(1,headP [])],[]⟩ :=
  ⟨puts_hit (by rw [puts_length];exact h1) ⟨_,List.mem_singleton.2 rfl,rfl⟩ (fun y hy _=>by rw [List.mem_singleton.1 hy]),
   fun j hj=>puts_at ((hE [] (by simp)).home j hj) (fun y hy e=>by rw [List.mem_singleton.1 hy] at e;simp at e;omega),fun y hy=>by cases hy⟩
 have hrun:Sw.run ⟨S,[]⟩ (installA l) = ⟨puts (puts S (l.map (fun x=>(32 + x.1,x.2)))) [(1,headP [])],[]⟩:=by
  unfold installA
  rw [run_append,hxs,run_writes]
  rfl
 refine ⟨?_,by rw [hrun];exact hF,by rw [hrun]⟩
 unfold installA
 refine Along.append ?_ ?_
 ·rw [hxs]
  exact along_writes _ fun k hk=>.inr (.inr (.inl (hC _ fun y hy=>by
   rw [List.nil_append] at hy
   exact List.mem_of_mem_take hy)))
 ·rw [hxs,run_writes,List.nil_append]
  refine ⟨.inr (.inr (.inl (hC _ fun y hy=>hy))),?_⟩
  refine ⟨.inr (.inr (.inr (.inl (hE [] (by simp))))),?_⟩
  refine ⟨.inr (.inr (.inr (.inl (hE [(1,headP [])] (by simp))))),?_⟩
  exact .inr (.inr (.inr (.inr hF)))
theorem commit_along (hg:l.Good m) (hm:32 + m = n) {S:List ByteArray} (hn:S.length = n) (h:StA m H ⟨S,[]⟩) :
 Along (Good m H l) ⟨S,[]⟩ (commitA l) /\ StA m (over H l) (Sw.run ⟨S,[]⟩ (commitA l)) /\ (Sw.run ⟨S,[]⟩ (commitA l)).wait = []:=by
 have hxs:stageA l = (l.zipIdx.map (fun p=>(2 + p.2,p.1.2))).map (fun x=>.write x.1 x.2):=by unfold stageA;rw [List.map_map];rfl
 have hin:∀ y ∈ l.zipIdx.map (fun p=>(2 + p.2,p.1.2)),2 <= y.1 /\ y.1 < 32:=by
  intro y hy
  obtain ⟨p,hp,rfl⟩:=List.mem_map.1 hy
  have h2:=List.mem_zipIdx hp
  have:=hg.len
  exact ⟨by simp,by simp;omega⟩
 have h1:S.length > 1:=get_lt h.head
 generalize hX:l.zipIdx.map (fun p=>(2 + p.2,p.1.2)) = X at hxs hin
 have hA0:∀ w:List (Nat × ByteArray),(∀ y ∈ w,y ∈ X) -> StA m H ⟨S,w⟩:=fun w hw=>⟨h.head,h.home,fun y hy=>hin y (hw y hy)⟩
 have hhead:(puts S X)[1]? = some (headP []):=puts_at h.head fun y hy e=>by have:=hin y hy;omega
 have hhome:∀ j,j < m -> (puts S X)[32 + j]? = some (H j):=fun j hj=>puts_at (h.home j hj) fun y hy e=>by have:=hin y hy;omega
 have hheld:Held l (puts S X):=by
  intro k p hk
  have hlt:2 + k < S.length:=by have:=held_at hg hk;omega
  have hmem:(2 + k,p.2) ∈ X:=by
   rw [<- hX]
   exact List.mem_map.2 ⟨(p,k),List.mem_zipIdx_iff_getElem?.2 hk,rfl⟩
  refine puts_hit hlt ⟨_,hmem,rfl⟩ fun y hy e=>?_
  rw [<- hX] at hy
  obtain ⟨q,hq,rfl⟩:=List.mem_map.1 hy
  have h3:=List.mem_zipIdx_iff_getElem?.1 hq
  obtain rfl:q.2 = k:=by simp at e;omega
  rw [hk] at h3
  simp only [Option.some.injEq] at h3
  rw [h3]
 have hA1:StA m H ⟨puts S X,[]⟩:=⟨hhead,hhome,fun y hy=>by cases hy⟩
 have hB:StB m H l ⟨puts S X,[(1,headP (keys l))]⟩:=⟨hhead,hhome,hheld,fun y hy=>List.mem_singleton.1 hy⟩
 have hC:StC m H l ⟨puts (puts S X) [(1,headP (keys l))],[]⟩ :=
  ⟨puts_hit (by rw [puts_length];exact h1) ⟨_,List.mem_singleton.2 rfl,rfl⟩ (fun y hy _=>by rw [List.mem_singleton.1 hy]),
   fun j hj=>.inl (puts_at (hhome j hj) fun y hy e=>by rw [List.mem_singleton.1 hy] at e;simp at e;omega),
   fun k p hk=>puts_at (hheld k p hk) fun y hy e=>by rw [List.mem_singleton.1 hy] at e;simp at e;omega,fun y hy=>by cases hy⟩
 have hrun1:Sw.run ⟨S,[]⟩ (stageA l) = ⟨S,X⟩:=by rw [hxs,run_writes,List.nil_append]
 have hrun2:Sw.run ⟨S,X⟩ (sealA (l.map (·.1))) = ⟨puts (puts S X) [(1,headP (keys l))],[]⟩:=rfl
 have hI:=install_along hg hm (by rw [puts_length,puts_length];exact hn) hC
 have hrun:Sw.run ⟨S,[]⟩ (commitA l) = Sw.run ⟨puts (puts S X) [(1,headP (keys l))],[]⟩ (installA l):=by
  unfold commitA
  rw [run_append,run_append,hrun1,hrun2]
 refine ⟨?_,by rw [hrun];exact hI.2.1,by rw [hrun];exact hI.2.2⟩
 unfold commitA
 refine Along.append ?_ (Along.append ?_ ?_)
 ·rw [hxs]
  exact along_writes _ fun k hk=>.inl (hA0 _ fun y hy=>by
   rw [List.nil_append] at hy
   exact List.mem_of_mem_take hy)
 ·rw [hrun1]
  refine ⟨.inl (hA0 _ fun y hy=>hy),?_⟩
  refine ⟨.inl hA1,?_⟩
  refine ⟨.inr (.inl hB),?_⟩
  exact .inr (.inr (.inl hC))
 ·rw [hrun1,hrun2]
  exact hI.1
end
theorem write_keeps (D:DSt) (i:Int) (s:ByteArray):(D.write i s).safe.length = D.safe.length /\ (D.write i s).wait.length <= D.wait.length + 1:=by
 unfold DSt.write
 split
 ·exact ⟨rfl,by omega⟩
 ·split
  ·exact ⟨rfl,by omega⟩
  ·split
   ·exact ⟨rfl,Nat.le_succ _⟩
   ·exact ⟨rfl,by simp⟩
theorem flush_keeps (D:DSt):D.flush.safe.length = D.safe.length /\ D.flush.wait.length <= D.wait.length:=by
 unfold DSt.flush
 split
 ·exact ⟨rfl,Nat.le_refl _⟩
 ·split
  ·exact ⟨rfl,Nat.le_refl _⟩
  ·exact ⟨puts_length _ _,Nat.zero_le _⟩
end Go.Proofs.YtngalllaiphkhaaGreatDoor
