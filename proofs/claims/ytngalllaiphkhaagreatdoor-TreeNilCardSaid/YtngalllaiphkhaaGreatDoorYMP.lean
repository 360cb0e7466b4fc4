import Derived.Test.YtngalllaiphkhaaGreatDoorYWA
namespace Go.Proofs.YtngalllaiphkhaaGreatDoor
theorem byteAt_list (s:ByteArray) (i:Nat):byteAt s i = (s.data.toList.getD i 0).toNat:=rfl
theorem toList_append (s t:ByteArray):(s ++ t).data.toList = s.data.toList ++ t.data.toList:=by rw [ByteArray.data_append,Array.toList_append]
theorem toList_extract (s:ByteArray) (a b:Nat):(s.extract a b).data.toList = (s.data.toList.take b).drop a:=by
 rw [ByteArray.data_extract,Array.toList_extract,List.extract_eq_take_drop,List.take_drop]
 by_cases h:a <= b
 ·congr 2;omega
 ·rw [List.drop_of_length_le (by rw [List.length_take];omega),List.drop_of_length_le (by rw [List.length_take];omega)]
theorem byteAt_extract {s:ByteArray} {a b i:Nat} (h:a + i < b):byteAt (s.extract a b) i = byteAt s (a + i):=by
 rw [byteAt_list,toList_extract,byteAt_list,List.getD,List.getD,List.getElem?_drop,List.getElem?_take,if_pos h]
theorem size_patched {old s:ByteArray} {off:Nat} (h:off + s.size <= old.size):(patched old off s).size = old.size:=by
 unfold patched
 rw [ByteArray.size_append,ByteArray.size_append,ByteArray.size_extract,ByteArray.size_extract]
 omega
theorem toList_patched (old s:ByteArray) (off:Nat):(patched old off s).data.toList = old.data.toList.take off ++ s.data.toList ++ old.data.toList.drop (off + s.size):=by
 unfold patched
 rw [toList_append,toList_append,toList_extract,toList_extract,List.drop_zero]
 congr 1
 rw [List.take_of_length_le (l:=old.data.toList) (by rw [bytes_len];omega)]
theorem byteAt_patched {old s:ByteArray} {off:Nat} (h:off + s.size <= old.size) (i:Nat):byteAt (patched old off s) i = if i < off then byteAt old i else if i < off + s.size then byteAt s (i - off) else byteAt old i:=by
 have hl:old.data.toList.length = old.size:=bytes_len old
 have hs:s.data.toList.length = s.size:=bytes_len s
 rw [byteAt_list,toList_patched,byteAt_list,byteAt_list]
 simp only [List.getD]
 by_cases h1:i < off
 ·rw [if_pos h1,List.append_assoc,List.getElem?_append_left (by rw [List.length_take];omega),List.getElem?_take,if_pos h1]
 ·rw [if_neg h1]
  by_cases h2:i < off + s.size
  ·rw [if_pos h2,List.append_assoc,List.getElem?_append_right (by rw [List.length_take];omega),List.getElem?_append_left (by rw [List.length_take];omega),List.length_take,show i - min off old.data.toList.length = i - off by omega]
  ·rw [if_neg h2,List.getElem?_append_right (by rw [List.length_append,List.length_take];omega),List.getElem?_drop,List.length_append,List.length_take,show off + s.size + (i - (min off old.data.toList.length + s.data.toList.length)) = i by omega]
theorem decodeP_extract {s:ByteArray} {a:Nat}:decodeP (s.extract a (a + 16)) = ⟨byteAt s a,byteAt s (a + 1),twoAt s (a + 2),twoAt s (a + 4),twoAt s (a + 6),twoAt s (a + 8),twoAt s (a + 10),twoAt s (a + 12),twoAt s (a + 14)⟩:=by
 unfold decodeP twoAt
 rw [byteAt_extract (by omega),byteAt_extract (by omega),byteAt_extract (by omega),byteAt_extract (by omega),byteAt_extract (by omega),byteAt_extract (by omega),byteAt_extract (by omega),byteAt_extract (by omega),byteAt_extract (by omega),byteAt_extract (by omega),byteAt_extract (by omega),byteAt_extract (by omega),byteAt_extract (by omega),byteAt_extract (by omega),byteAt_extract (by omega),byteAt_extract (by omega)]
 simp only [Nat.add_assoc,Nat.add_zero,Nat.reduceAdd]
theorem leBytes2 (v:Nat):leBytes v 2 = [UInt8.ofNat (v % 256),UInt8.ofNat (v / 256 % 256)]:=rfl
theorem encodeL_eq (x:Ino):encodeL x = [UInt8.ofNat (x.kind % 256),UInt8.ofNat (x.links % 256),UInt8.ofNat (x.size % 256),UInt8.ofNat (x.size / 256 % 256),UInt8.ofNat (x.a0 % 256),UInt8.ofNat (x.a0 / 256 % 256),UInt8.ofNat (x.a1 % 256),UInt8.ofNat (x.a1 / 256 % 256),UInt8.ofNat (x.a2 % 256),UInt8.ofNat (x.a2 / 256 % 256),UInt8.ofNat (x.a3 % 256),UInt8.ofNat (x.a3 / 256 % 256),UInt8.ofNat (x.a4 % 256),UInt8.ofNat (x.a4 / 256 % 256),UInt8.ofNat (x.a5 % 256),UInt8.ofNat (x.a5 / 256 % 256)]:=rfl
theorem byteAt_encode (x:Ino) (i:Nat):byteAt (encodeP x) i = ((encodeL x).getD i 0).toNat:=rfl
theorem u8_mod (v:Nat):(UInt8.ofNat (v % 256)).toNat = v % 256:=by rw [UInt8.toNat_ofNat'];omega
structure Ino.Ok (x:Ino):Prop where
 fits:x.Fits
 kind:x.kind < 256
 links:x.links < 256
theorem two_join {v:Nat} (h:v < 65536):v % 256 + 256 * (v / 256 % 256) = v:=by omega
theorem decode_patched {s:ByteArray} {x:Ino} {a:Nat} (hx:x.Ok) (h:a + 16 <= s.size):decodeP ((patched s a (encodeP x)).extract a (a + 16)) = x:=by
 rw [decodeP_extract]
 have hb:∀ i,i < 16 -> byteAt (patched s a (encodeP x)) (a + i) = ((encodeL x).getD i 0).toNat:=by
  intro i hi
  have he:(encodeP x).size = 16:=by rw [<- encTo_all,size_of_list,encTo_length x 6 (by omega)]
  rw [byteAt_patched (by omega),if_neg (by omega),if_pos (by omega),byteAt_encode,show a + i - a = i by omega]
 have h0:=hb 0 (by omega)
 rw [Nat.add_zero] at h0
 unfold twoAt
 simp only [Nat.add_assoc,Nat.reduceAdd]
 rw [h0,hb 1 (by omega),hb 2 (by omega),hb 3 (by omega),hb 4 (by omega),hb 5 (by omega),hb 6 (by omega),hb 7 (by omega),hb 8 (by omega),hb 9 (by omega),hb 10 (by omega),hb 11 (by omega),hb 12 (by omega),hb 13 (by omega),hb 14 (by omega),hb 15 (by omega),encodeL_eq]
 simp only [List.getD_cons_zero,List.getD_cons_succ,u8_mod]
 obtain ⟨⟨f1,f2,f3,f4,f5,f6,f7,f8,f9⟩,hk,hl⟩:=hx
 rw [two_join f3,two_join f4,two_join f5,two_join f6,two_join f7,two_join f8,two_join f9,Nat.mod_eq_of_lt hk,Nat.mod_eq_of_lt hl]
theorem decode_other {s t:ByteArray} {a c:Nat} (h:c + t.size <= s.size) (hac:a + 16 <= c \/ c + t.size <= a):decodeP ((patched s c t).extract a (a + 16)) = decodeP (s.extract a (a + 16)):=by
 rw [decodeP_extract,decodeP_extract]
 have hb:∀ i,i < 16 -> byteAt (patched s c t) (a + i) = byteAt s (a + i):=by
  intro i hi
  rw [byteAt_patched h]
  rcases hac with hac | hac
  ·rw [if_pos (by omega)]
  ·rw [if_neg (by omega),if_neg (by omega)]
 have h0:=hb 0 (by omega)
 rw [Nat.add_zero] at h0
 unfold twoAt
 simp only [Nat.add_assoc,Nat.reduceAdd]
 rw [h0,hb 1 (by omega),hb 2 (by omega),hb 3 (by omega),hb 4 (by omega),hb 5 (by omega),hb 6 (by omega),hb 7 (by omega),hb 8 (by omega),hb 9 (by omega),hb 10 (by omega),hb 11 (by omega),hb 12 (by omega),hb 13 (by omega),hb 14 (by omega),hb 15 (by omega)]
theorem two_patched {s:ByteArray} {v a:Nat} (hv:v < 65536) (h:a + 2 <= s.size):twoAt (patched s a ⟨(leBytes v 2).toArray⟩) a = v:=by
 have hs:(⟨(leBytes v 2).toArray⟩:ByteArray).size = 2:=by rw [size_of_list,leBytes_length]
 have b0:byteAt (⟨(leBytes v 2).toArray⟩:ByteArray) 0 = v % 256:=by show (UInt8.ofNat (v % 256)).toNat = _;exact u8_mod v
 have b1:byteAt (⟨(leBytes v 2).toArray⟩:ByteArray) 1 = v / 256 % 256:=by show (UInt8.ofNat (v / 256 % 256)).toNat = _;exact u8_mod _
 unfold twoAt
 rw [byteAt_patched (by omega),byteAt_patched (by omega),if_neg (by omega),if_pos (by omega),if_neg (by omega),if_pos (by omega),Nat.sub_self,show a + 1 - a = 1 by omega,b0,b1]
 exact two_join hv
theorem two_other {s t:ByteArray} {a c:Nat} (h:c + t.size <= s.size) (hac:a + 2 <= c \/ c + t.size <= a):twoAt (patched s c t) a = twoAt s a:=by
 unfold twoAt
 rw [byteAt_patched h,byteAt_patched h]
 rcases hac with hac | hac
 ·rw [if_pos (by omega),if_pos (by omega)]
 ·rw [if_neg (by omega),if_neg (by omega),if_neg (by omega),if_neg (by omega)]
theorem two_nought (a:Nat):twoAt nought a = 0:=by
 have h:∀ i,byteAt nought i = 0:=by
  intro i
  by_cases hi:i < 64
  ·have:∀ i:Fin 64,byteAt nought i.1 = 0:=by decide +kernel
   exact this ⟨i,hi⟩
  ·rw [byteAt_list,List.getD,List.getElem?_eq_none (by rw [bytes_len,nought_size];omega)];rfl
 unfold twoAt
 rw [h,h]
theorem mark_bit (b:Nat) (hb:b < 256) (i j:Nat) (hi:i < 8) (hj:j < 8) (is:Bool):((markB b i is) / 2 ^ j % 2 == 1) = if j = i then is else (b / 2 ^ j % 2 == 1):=by
 have h:∀ b:Fin 256,∀ i j:Fin 8,∀ is:Bool,((markB b.1 i.1 is) / 2 ^ j.1 % 2 == 1) = if j.1 = i.1 then is else (b.1 / 2 ^ j.1 % 2 == 1):=by decide +kernel
 exact h ⟨b,hb⟩ ⟨i,hi⟩ ⟨j,hj⟩ is
theorem used_marked {m:ByteArray} (hm:m.size = 64) {i j:Nat} (hi:i < 512) (is:Bool) (hlt:markB (byteAt m (i / 8)) (i % 8) is < 256):usedP (patched m (i / 8) ⟨#[UInt8.ofNat (markB (byteAt m (i / 8)) (i % 8) is)]⟩) j = if j = i then is else usedP m j:=by
 unfold usedP
 have hs:(⟨#[UInt8.ofNat (markB (byteAt m (i / 8)) (i % 8) is)]⟩:ByteArray).size = 1:=rfl
 rw [byteAt_patched (by omega)]
 by_cases hq:j / 8 = i / 8
 ·rw [if_neg (by omega),if_pos (by omega),hq,Nat.sub_self]
  have hb:byteAt (⟨#[UInt8.ofNat (markB (byteAt m (i / 8)) (i % 8) is)]⟩:ByteArray) 0 = markB (byteAt m (i / 8)) (i % 8) is:=by
   show (UInt8.ofNat _).toNat = _
   rw [UInt8.toNat_ofNat'];omega
  rw [hb,mark_bit _ (byteAt_lt _ _) _ _ (by omega) (by omega)]
  by_cases h:j = i
  ·rw [if_pos (by rw [h]),if_pos h]
  ·rw [if_neg (by omega),if_neg h]
 ·have hne:j ≠ i:=fun h=>hq (by rw [h])
  rw [if_neg hne]
  by_cases h1:j / 8 < i / 8
  ·rw [if_pos h1]
  ·rw [if_neg h1,if_neg (by omega)]
theorem mark_lt (b:Nat) (hb:b < 256) (k:Nat) (hk:k < 8) (is:Bool):markB b k is < 256:=by
 have h:∀ b:Fin 256,∀ k:Fin 8,∀ is:Bool,markB b.1 k.1 is < 256:=by decide +kernel
 exact h ⟨b,hb⟩ ⟨k,hk⟩ is
abbrev Sec:=Nat -> ByteArray
def upd (X:Sec) (i:Nat) (s:ByteArray):Sec:=fun j=>if j = i then s else X j
theorem upd_same (X:Sec) (i:Nat) (s:ByteArray):upd X i s i = s:=if_pos rfl
theorem upd_ne (X:Sec) {i j:Nat} (s:ByteArray) (h:j ≠ i):upd X i s j = X j:=if_neg h
def xpatch (X:Sec) (i off:Nat) (s:ByteArray):Sec:=upd X i (patched (X i) off s)
def xinode (X:Sec) (n:Nat):Ino:=decodeP ((X (1 + n / 4)).extract (n % 4 * 16) (n % 4 * 16 + 16))
def xkeep (X:Sec) (n:Nat) (x:Ino):Sec:=xpatch X (1 + n / 4) (n % 4 * 16) (encodeP x)
def xmark (X:Sec) (i:Nat) (is:Bool):Sec:=xpatch X 0 (i / 8) ⟨#[UInt8.ofNat (markB (byteAt (X 0) (i / 8)) (i % 8) is)]⟩
def xtakeN (m:Nat) (X:Sec):Nat:=((List.range m).find? fun i=>decide (9 <= i) && !usedP (X 0) i).getD 0
def xat (X:Sec) (x:Ino) (k:Nat):Nat:=if k < 5 then x.get k else twoAt (X x.a5) (2 * (k - 5))
def xset (X:Sec) (x:Ino) (k v:Nat):Sec:=if k < 5 then X else xpatch X x.a5 (2 * (k - 5)) ⟨(leBytes v 2).toArray⟩
def xnew (m:Nat) (X:Sec):Sec:=upd (xmark X (xtakeN m X) true) (xtakeN m X) nought
def xgrow (m:Nat) (X:Sec) (x:Ino) (c:Nat):Sec × Ino:=(xset (xnew m X) x c (xtakeN m X),vsetX x c (xtakeN m X))
def xroom (m:Nat) (X:Sec):Nat:=freeTo (X 0) m
structure Alv (m:Nat) (H X:Sec) (K:List Nat) (L:LSt):Prop where
 calm:Calm m H L.D
 dead:L.dead = false
 power:-1 <= L.D.power
 vok:VOk L
 eq:over H L.stg = X
 keys:∀ x ∈ L.stg,x.1 ∈ K
theorem nodup_len:∀ {l K:List Nat},l.Nodup -> (∀ x ∈ l,x ∈ K) -> l.length <= K.length
 | [],_,_,_=>Nat.zero_le _
 | a :: l,K,hn,hs=>by
  have h1:=(List.nodup_cons.1 hn).1
  have h2:=(List.nodup_cons.1 hn).2
  have hm:=hs a (List.mem_cons_self ..)
  have ih:=nodup_len (K:=K.erase a) h2 fun x hx=>(List.mem_erase_of_ne (by intro e;subst e;exact h1 hx)).2 (hs x (List.mem_cons_of_mem _ hx))
  have hl:=List.length_erase_of_mem hm
  have hp:=List.length_pos_of_mem hm
  rw [List.length_cons]
  omega
theorem keys_nodup {l:Stg} (h:l.Ok):(keys l).Nodup:=by
 unfold keys
 rw [List.Nodup,List.pairwise_map]
 exact h.imp fun hlt=>Nat.ne_of_lt hlt
theorem over_put (H:Sec) {l:Stg} (h:l.Ok) (i:Nat) (s:ByteArray):over H (l.put i s) = upd (over H l) i s:=by
 funext j
 unfold over upd
 rw [at_put l h]
 by_cases hj:j = i
 ·rw [if_pos hj,if_pos hj];rfl
 ·rw [if_neg hj,if_neg hj]
section
variable {m:Nat} {H X:Sec} {K:List Nat} {L:LSt}
theorem Alv.good (h:Alv m H X K L):L.stg.Good m:=good_m h.calm h.vok.ok
theorem Alv.more (h:Alv m H X K L) {K':List Nat} (hK:∀ i ∈ K,i ∈ K'):Alv m H X K' L:=⟨h.calm,h.dead,h.power,h.vok,h.eq,fun x hx=>hK _ (h.keys x hx)⟩
theorem Alv.len (h:Alv m H X K L):L.stg.length <= K.length:=by
 have:=nodup_len (keys_nodup h.good.ok) (K:=K) fun i hi=>by
  obtain ⟨x,hx,rfl⟩:=List.mem_map.1 hi
  exact h.keys x hx
 have h2:(Go.Proofs.YtngalllaiphkhaaGreatDoor.keys L.stg).length = L.stg.length:=List.length_map ..
 omega
theorem Alv.home (h:Alv m H X K L):homeN L = m:=by unfold homeN;rw [h.calm.len];omega
theorem Alv.m16 (h:Alv m H X K L):16 <= m /\ m <= 512:=by
 have h1:=h.vok.disk.lo48
 have h2:=h.vok.disk.len
 have h3:=h.calm.len
 omega
theorem Alv.get (h:Alv m H X K L) {i:Nat} (hi:i < m):L.getE i = 0 /\ vget L i = X i:=by
 have hL:L = LSt.mk L.D L.stg false:=by rw [<- h.dead]
 have h1:=h.calm.get L.stg hi
 rw [<- hL,h.eq] at h1
 refine ⟨h1.2,?_⟩
 unfold vget
 rw [if_pos h1.2]
 exact h1.1
theorem Alv.size (h:Alv m H X K L) {i:Nat} (hi:i < m):(X i).size = 64:=by
 rw [<- (h.get hi).2]
 exact vget_size h.vok i
theorem Alv.get0 (h:Alv m H X K L):L.getE 0 = 0 /\ vget L 0 = X 0:=h.get (i:=0) (by have:=h.m16;omega)
theorem Alv.count (h:Alv m H X K L):L.count = L.stg.length:=by unfold LSt.count;rw [if_neg (by simp [h.dead])]
theorem Alv.full (h:Alv m H X K L):vfullB L = decide (16 < L.stg.length):=by unfold vfullB;rw [h.count]
theorem Alv.set (h:Alv m H X K L) {i:Nat} (hi:i < m) (hiK:i ∈ K) (hK:K.length <= 29) {s:ByteArray} (hs:s.size = 64):L.setE i s = 0 /\ Alv m H (upd X i s) K (L.set i s):=by
 have hmay:L.mayE i = 0:=by
  unfold LSt.mayE
  rw [if_neg (by simp [h.dead]),if_neg (by rw [h.calm.len];omega)]
 have hlen:=h.len
 have hE:L.setE i s = 0:=by
  unfold LSt.setE
  rw [if_neg (by simp [hmay]),if_neg (by simp [hs]),if_neg (fun h'=>by omega)]
 have e:L.set i s = { L with stg:=L.stg.put i s }:=by
  unfold LSt.set
  rw [if_neg (by simp [hE]),Int.toNat_natCast]
 refine ⟨hE,?_⟩
 have hv:=vok_set h.vok i s
 rw [e] at hv ⊢
 exact ⟨h.calm,h.dead,h.power,hv,by rw [<- h.eq];exact over_put H h.good.ok i s,fun x hx=>by
  rcases put_mem hx with rfl | hx
  ·exact hiK
  ·exact h.keys x hx⟩
theorem Alv.patch (h:Alv m H X K L) {i:Nat} (hi:i < m) (hiK:i ∈ K) (hK:K.length <= 29) {off:Nat} {s:ByteArray} (hs:off + s.size <= 64):Alv m H (xpatch X i off s) K (vpatch L i off s):=by
 unfold vpatch xpatch
 rw [(h.get hi).2]
 exact (h.set hi hiK hK (by rw [size_patched (by rw [h.size hi];exact hs),h.size hi])).2
theorem Alv.inode (h:Alv m H X K L) {n:Nat} (hn:n < 32):vinode L n = xinode X n:=by
 unfold vinode xinode
 rw [(h.get (i:=1 + n / 4) (by have:=h.m16;omega)).2]
theorem Alv.keep (h:Alv m H X K L) {n:Nat} (hn:n < 32) (hiK:1 + n / 4 ∈ K) (hK:K.length <= 29) (x:Ino):Alv m H (xkeep X n x) K (vkeep L n x) :=
 h.patch (by have:=h.m16;omega) hiK hK (by rw [encodeP_size];omega)
theorem Alv.mark (h:Alv m H X K L) {i:Nat} (hi:i < 512) (hiK:0 ∈ K) (hK:K.length <= 29) (is:Bool):Alv m H (xmark X i is) K (vmark L i is):=by
 unfold vmark xmark
 rw [h.get0.2]
 exact h.patch (i:=0) (by have:=h.m16;omega) hiK hK (by show i / 8 + 1 <= 64;omega)
theorem Alv.takeN (h:Alv m H X K L):vtakeN L = xtakeN m X:=by unfold vtakeN xtakeN;rw [h.home,h.get0.2]
theorem Alv.room (h:Alv m H X K L):vroom L = xroom m X:=by unfold vroom xroom freeTo;rw [h.home,h.get0.2]
theorem Alv.at_ (h:Alv m H X K L) (x:Ino) {k:Nat} (hx:k < 5 \/ x.a5 < m):vat L x k = xat X x k:=by
 unfold vat xat
 by_cases hk:k < 5
 ·rw [if_pos hk,if_pos hk]
 ·rw [if_neg hk,if_neg hk,(h.get (hx.resolve_left hk)).2]
theorem Alv.setL (h:Alv m H X K L) (x:Ino) {k:Nat} (hx:k < 5 \/ (x.a5 < m /\ x.a5 ∈ K)) (hk:k < 37) (hK:K.length <= 29) (v:Nat):Alv m H (xset X x k v) K (vsetL L x k v):=by
 unfold vsetL xset
 by_cases h5:k < 5
 ·rw [if_pos h5,if_pos h5];exact h
 ·rw [if_neg h5,if_neg h5]
  obtain ⟨h1,h2⟩:=hx.resolve_left h5
  exact h.patch h1 h2 hK (by rw [size_of_list,leBytes_length];omega)
theorem takeN_free {X:Sec} (h:xtakeN m X ≠ 0):9 <= xtakeN m X /\ xtakeN m X < m /\ usedP (X 0) (xtakeN m X) = false:=by
 unfold xtakeN at h ⊢
 cases hf:(List.range m).find? (fun i=>decide (9 <= i) && !usedP (X 0) i) with
 | none=>rw [hf] at h;exact absurd rfl h
 | some i =>
  have h1:=List.mem_range.1 (List.mem_of_find?_eq_some hf)
  have h2:=List.find?_some hf
  simp only [Bool.and_eq_true,decide_eq_true_iff,Bool.not_eq_true'] at h2
  exact ⟨h2.1,h1,h2.2⟩
theorem freeTo_pos {M:ByteArray} {k:Nat} (h:0 < freeTo M k):∃ i,i < k /\ usedP M i = false:=by
 unfold freeTo at h
 obtain ⟨i,hi⟩:=List.exists_mem_of_length_pos h
 rw [List.mem_filter] at hi
 exact ⟨i,List.mem_range.1 hi.1,by simpa using hi.2⟩
theorem takeN_pos {X:Sec} (hr:0 < xroom m X) (h9:∀ i,i < 9 -> usedP (X 0) i = true):xtakeN m X ≠ 0:=by
 obtain ⟨i,hi,hu⟩:=freeTo_pos hr
 have h9i:9 <= i:=by
  rcases Nat.lt_or_ge i 9 with h | h
  ·rw [h9 i h] at hu;cases hu
  ·exact h
 unfold xtakeN
 cases hf:(List.range m).find? (fun i=>decide (9 <= i) && !usedP (X 0) i) with
 | none =>
  rw [List.find?_range_eq_none] at hf
  have:=hf i hi
  simp [h9i,hu] at this
 | some j =>
  have h2:=List.find?_some hf
  simp only [Bool.and_eq_true,decide_eq_true_iff] at h2
  show j ≠ 0
  omega
theorem Alv.newN (h:Alv m H X K L) (ht:xtakeN m X ≠ 0) (h0:0 ∈ K) (hi:xtakeN m X ∈ K) (hK:K.length <= 29):Alv m H (xnew m X) K ((vtake L).set (vtakeN L:Nat) nought):=by
 obtain ⟨h1,h2,h3⟩:=takeN_free ht
 unfold vtake xnew
 rw [h.takeN,if_neg ht]
 have hm:=h.mark (i:=xtakeN m X) (by have:=h.m16;omega) h0 hK true
 exact (hm.set h2 hi hK nought_size).2
theorem Alv.grow (h:Alv m H X K L) (x:Ino) {c:Nat} (hc:c < 37) (hx:c < 5 \/ (x.a5 < m /\ x.a5 ∈ K)) (ht:xtakeN m X ≠ 0) (h0:0 ∈ K) (hi:xtakeN m X ∈ K) (hK:K.length <= 29) :
 vgrow (L,x) c = ((vgrow (L,x) c).1,(xgrow m X x c).2) /\ Alv m H (xgrow m X x c).1 K (vgrow (L,x) c).1:=by
 have hn:=h.newN ht h0 hi hK
 have hs:=hn.setL x hx hc hK (xtakeN m X)
 unfold vgrow xgrow
 refine ⟨?_,?_⟩
 ·show (_,vsetX x c (vtakeN L)) = (_,vsetX x c (xtakeN m X))
  rw [h.takeN]
 ·show Alv m H (xset (xnew m X) x c (xtakeN m X)) K (vsetL ((vtake L).set (vtakeN L:Nat) nought) x c (vtakeN L))
  rw [h.takeN] at hn hs ⊢
  exact hs
end
structure Fs where
 x:Ino
 P:Nat -> Bool
def ownF (X:Sec) (f:Fs) (i:Nat):Prop:=(f.x.a5 ≠ 0 /\ i = f.x.a5) \/ ∃ k,f.P k = true /\ i = xat X f.x k
structure FOk (m:Nat) (X:Sec) (f:Fs):Prop where
 p37:∀ k,f.P k = true -> k < 37
 p5:∀ k,f.P k = true -> 5 <= k -> f.x.a5 ≠ 0
 zero:∀ k,k < 37 -> f.P k = false -> k < 5 \/ f.x.a5 ≠ 0 -> xat X f.x k = 0
 inb:∀ i,ownF X f i -> 9 <= i /\ i < m
 inj:∀ k l,f.P k = true -> f.P l = true -> xat X f.x k = xat X f.x l -> k = l
 ind:∀ k,f.P k = true -> f.x.a5 ≠ 0 -> xat X f.x k ≠ f.x.a5
structure XInv (m:Nat) (X:Sec) (V:Nat -> Fs):Prop where
 m16:16 <= m
 m512:m <= 512
 size:∀ i,i < m -> (X i).size = 64
 each:∀ n,n < 32 -> FOk m X (V n)
 apart:∀ n n',n < 32 -> n' < 32 -> n ≠ n' -> ∀ i,ownF X (V n) i -> ¬ ownF X (V n') i
 map:∀ i,i < 512 -> (usedP (X 0) i = true ↔ i < 9 \/ ∃ n,n < 32 /\ ownF X (V n) i)
def setV (V:Nat -> Fs) (n:Nat) (f:Fs):Nat -> Fs:=fun j=>if j = n then f else V j
theorem setV_same (V:Nat -> Fs) (n:Nat) (f:Fs):setV V n f n = f:=if_pos rfl
theorem setV_ne (V:Nat -> Fs) {n j:Nat} (f:Fs) (h:j ≠ n):setV V n f j = V j:=if_neg h
theorem get_put (x:Ino) (k j y:Nat) (hk:k < 6) (hj:j < 6):(x.put k y).get j = if j = k then y else x.get j:=by
 obtain rfl | rfl | rfl | rfl | rfl | rfl:k = 0 \/ k = 1 \/ k = 2 \/ k = 3 \/ k = 4 \/ k = 5:=by omega
 all_goals (obtain rfl | rfl | rfl | rfl | rfl | rfl:j = 0 \/ j = 1 \/ j = 2 \/ j = 3 \/ j = 4 \/ j = 5:=by omega) <;> rfl
theorem put_a5 (x:Ino) (k y:Nat) (hk:k < 5):(x.put k y).a5 = x.a5:=by
 obtain rfl | rfl | rfl | rfl | rfl:k = 0 \/ k = 1 \/ k = 2 \/ k = 3 \/ k = 4:=by omega
 all_goals rfl
theorem vsetX_a5 (x:Ino) (k y:Nat):(vsetX x k y).a5 = x.a5:=by
 unfold vsetX
 split
 ·exact put_a5 x k y (by assumption)
 ·rfl
section
variable {m:Nat} {X Y:Sec} {V:Nat -> Fs} {f g:Fs}
theorem xat_congr (x:Ino) {k:Nat} (h:k < 5 \/ Y x.a5 = X x.a5):xat Y x k = xat X x k:=by
 unfold xat
 by_cases hk:k < 5
 ·rw [if_pos hk,if_pos hk]
 ·rw [if_neg hk,if_neg hk,h.resolve_left hk]
theorem own_congr (h:FOk m X f) (hY:f.x.a5 ≠ 0 -> Y f.x.a5 = X f.x.a5) (i:Nat):ownF Y f i ↔ ownF X f i:=by
 have he:∀ k,f.P k = true -> xat Y f.x k = xat X f.x k:=fun k hk=>xat_congr f.x (by
  rcases Nat.lt_or_ge k 5 with h5 | h5
  ·exact .inl h5
  ·exact .inr (hY (h.p5 k hk h5)))
 unfold ownF
 constructor
 ·rintro (h1 | ⟨k,hk,rfl⟩)
  ·exact .inl h1
  ·exact .inr ⟨k,hk,he k hk⟩
 ·rintro (h1 | ⟨k,hk,rfl⟩)
  ·exact .inl h1
  ·exact .inr ⟨k,hk,(he k hk).symm⟩
theorem FOk.congr (h:FOk m X f) (hY:f.x.a5 ≠ 0 -> Y f.x.a5 = X f.x.a5):FOk m Y f:=by
 have he:∀ k,k < 5 \/ f.x.a5 ≠ 0 -> xat Y f.x k = xat X f.x k:=fun k hk=>xat_congr f.x (hk.imp id hY)
 have hp:∀ k,f.P k = true -> k < 5 \/ f.x.a5 ≠ 0:=fun k hk=>by
  rcases Nat.lt_or_ge k 5 with h5 | h5
  ·exact .inl h5
  ·exact .inr (h.p5 k hk h5)
 exact ⟨h.p37,h.p5,fun k h1 h2 h3=>by rw [he k h3];exact h.zero k h1 h2 h3,fun i hi=>h.inb i ((own_congr h hY i).1 hi),
  fun k l hk hl e=>h.inj k l hk hl (by rw [<- he k (hp k hk),<- he l (hp l hl)];exact e),fun k hk h5=>by rw [he k (hp k hk)];exact h.ind k hk h5⟩
theorem XInv.of_eq (h:XInv m X V) {V':Nat -> Fs} (hV:∀ n,n < 32 -> V' n = V n):XInv m X V' where
 m16:=h.m16
 m512:=h.m512
 size:=h.size
 each n hn:=by rw [hV n hn];exact h.each n hn
 apart n n' hn hn' hne i:=by rw [hV n hn,hV n' hn'];exact h.apart n n' hn hn' hne i
 map i hi:=by
  rw [h.map i hi]
  constructor
  ·rintro (h1 | ⟨n,hn,h1⟩)
   ·exact .inl h1
   ·exact .inr ⟨n,hn,by rw [hV n hn];exact h1⟩
  ·rintro (h1 | ⟨n,hn,h1⟩)
   ·exact .inl h1
   ·exact .inr ⟨n,hn,by rw [<- hV n hn];exact h1⟩
theorem own_a5 (h:f.x.a5 ≠ 0):ownF X f f.x.a5:=.inl ⟨h,rfl⟩
theorem own_at {k:Nat} (h:f.P k = true):ownF X f (xat X f.x k):=.inr ⟨k,h,rfl⟩
theorem XInv.write (h:XInv m X V) {i:Nat} (h0:i ≠ 0) (hi:∀ n,n < 32 -> (V n).x.a5 ≠ 0 -> (V n).x.a5 ≠ i) {s:ByteArray} (hs:s.size = 64):XInv m (upd X i s) V:=by
 have hc:∀ n,n < 32 -> (V n).x.a5 ≠ 0 -> upd X i s (V n).x.a5 = X (V n).x.a5:=fun n hn h5=>upd_ne X s (hi n hn h5)
 exact {
  m16:=h.m16,m512:=h.m512
  size:=fun j hj=>by
   unfold upd
   split
   ·exact hs
   ·exact h.size j hj
  each:=fun n hn=>(h.each n hn).congr (hc n hn)
  apart:=fun n n' hn hn' hne j h1 h2=>h.apart n n' hn hn' hne j ((own_congr (h.each n hn) (hc n hn) j).1 h1) ((own_congr (h.each n' hn') (hc n' hn') j).1 h2)
  map:=fun j hj=>by
   rw [upd_ne X s (Ne.symm h0),h.map j hj]
   constructor
   ·rintro (h1 | ⟨n,hn,h1⟩)
    ·exact .inl h1
    ·exact .inr ⟨n,hn,(own_congr (h.each n hn) (hc n hn) j).2 h1⟩
   ·rintro (h1 | ⟨n,hn,h1⟩)
    ·exact .inl h1
    ·exact .inr ⟨n,hn,(own_congr (h.each n hn) (hc n hn) j).1 h1⟩ }
theorem XInv.low (h:XInv m X V) {i:Nat} (hi:i < 9) (n:Nat) (hn:n < 32) (h5:(V n).x.a5 ≠ 0):(V n).x.a5 ≠ i:=by
 have:=(h.each n hn).inb _ (own_a5 h5)
 omega
theorem XInv.data (h:XInv m X V) {n k:Nat} (hn:n < 32) (hk:(V n).P k = true) {s:ByteArray} (hs:s.size = 64):XInv m (upd X (xat X (V n).x k) s) V:=by
 have hb:=(h.each n hn).inb _ (own_at hk)
 refine h.write (by omega) (fun n' hn' h5 e=>?_) hs
 by_cases hne:n' = n
 ·subst hne
  exact (h.each n' hn).ind k hk h5 e.symm
 ·exact h.apart n' n hn' hn hne _ (own_a5 h5) (by rw [e];exact own_at hk)
theorem XInv.renum (h:XInv m X V) {n:Nat} {y:Ino} (hy:y.atL = (V n).x.atL):XInv m X (setV V n ⟨y,(V n).P⟩):=by
 have hg:∀ k,y.get k = (V n).x.get k:=fun k=>by unfold Ino.get;rw [hy]
 have h5:y.a5 = (V n).x.a5:=hg 5
 have hat:∀ k,xat X y k = xat X (V n).x k:=fun k=>by unfold xat;rw [hg k,h5]
 have ho:∀ i,ownF X ⟨y,(V n).P⟩ i ↔ ownF X (V n) i:=fun i=>by
  unfold ownF
  show (y.a5 ≠ 0 /\ i = y.a5) \/ (∃ k,(V n).P k = true /\ i = xat X y k) ↔ _
  rw [h5]
  simp only [hat]
 have ho2:∀ j i,ownF X (setV V n ⟨y,(V n).P⟩ j) i ↔ ownF X (V j) i:=fun j i=>by
  by_cases hj:j = n
  ·rw [hj,setV_same];exact ho i
  ·rw [setV_ne _ _ hj]
 exact {
  m16:=h.m16,m512:=h.m512,size:=h.size
  each:=fun j hj=>by
   by_cases hjn:j = n
   ·subst hjn
    rw [setV_same]
    have hf:=h.each j hj
    exact ⟨hf.p37,fun k hk h6=>by show y.a5 ≠ 0;rw [h5];exact hf.p5 k hk h6,fun k h1 h2 h3=>by show xat X y k = 0;rw [hat];exact hf.zero k h1 h2 (by rw [<- h5];exact h3),
     fun i hi=>hf.inb i ((ho i).1 hi),fun k l hk hl e=>hf.inj k l hk hl (by rw [<- hat,<- hat];exact e),fun k hk h6=>by show xat X y k ≠ y.a5;rw [hat,h5];exact hf.ind k hk (by rw [<- h5];exact h6)⟩
   ·rw [setV_ne _ _ hjn];exact h.each j hj
  apart:=fun a c ha hc hne i h1 h2=>h.apart a c ha hc hne i ((ho2 a i).1 h1) ((ho2 c i).1 h2)
  map:=fun i hi=>by
   rw [h.map i hi]
   constructor
   ·rintro (h1 | ⟨j,hj,h1⟩)
    ·exact .inl h1
    ·exact .inr ⟨j,hj,(ho2 j i).2 h1⟩
   ·rintro (h1 | ⟨j,hj,h1⟩)
    ·exact .inl h1
    ·exact .inr ⟨j,hj,(ho2 j i).1 h1⟩ }
theorem XInv.nine (h:XInv m X V) (i:Nat) (hi:i < 9):usedP (X 0) i = true:=(h.map i (by omega)).2 (.inl hi)
theorem xmark_ne (X:Sec) (i:Nat) (is:Bool) {j:Nat} (hj:j ≠ 0):xmark X i is j = X j:=upd_ne X _ hj
theorem xmark_used {X:Sec} (hs:(X 0).size = 64) {i:Nat} (hi:i < 512) (is:Bool) (j:Nat):usedP (xmark X i is 0) j = if j = i then is else usedP (X 0) j:=by
 unfold xmark xpatch
 rw [upd_same]
 exact used_marked hs hi is (mark_lt _ (byteAt_lt _ _) _ (by omega) is)
theorem xmark_size {X:Sec} (hs:∀ j,j < m -> (X j).size = 64) (hm:0 < m) {i:Nat} (hi:i < 512) (is:Bool) (j:Nat) (hj:j < m):(xmark X i is j).size = 64:=by
 by_cases h0:j = 0
 ·subst h0
  unfold xmark xpatch
  rw [upd_same,size_patched (by rw [hs 0 hm];show i / 8 + 1 <= 64;omega)]
  exact hs 0 hm
 ·rw [xmark_ne _ _ _ h0];exact hs j hj
end
section
variable {m:Nat} {X Z:Sec} {V:Nat -> Fs} {f g:Fs} {n c:Nat}
theorem XInv.rebuild (h:XInv m X V) (hn:n < 32) (hsz:∀ j,j < m -> (Z j).size = 64) (hoth:∀ n',n' < 32 -> n' ≠ n -> (V n').x.a5 ≠ 0 -> Z (V n').x.a5 = X (V n').x.a5) (hg:FOk m Z g)
 (hd:∀ j,ownF Z g j -> ∀ n',n' < 32 -> n' ≠ n -> ¬ ownF X (V n') j) (hm:∀ j,j < 512 -> (usedP (Z 0) j = true ↔ j < 9 \/ ownF Z g j \/ ∃ n',n' < 32 /\ n' ≠ n /\ ownF X (V n') j)):XInv m Z (setV V n g):=by
 have ho:∀ n',n' < 32 -> n' ≠ n -> ∀ j,ownF Z (setV V n g n') j ↔ ownF X (V n') j:=fun n' hn' hne j=>by
  rw [setV_ne _ _ hne]
  exact own_congr (h.each n' hn') (hoth n' hn' hne) j
 exact {
  m16:=h.m16,m512:=h.m512,size:=hsz
  each:=fun n' hn'=>by
   by_cases hne:n' = n
   ·rw [hne,setV_same];exact hg
   ·rw [setV_ne _ _ hne];exact (h.each n' hn').congr (hoth n' hn' hne)
  apart:=fun a b ha hb hab j h1 h2=>by
   by_cases han:a = n
   ·subst han
    rw [setV_same] at h1
    exact hd j h1 b hb (Ne.symm hab) ((ho b hb (Ne.symm hab) j).1 h2)
   ·by_cases hbn:b = n
    ·subst hbn
     rw [setV_same] at h2
     exact hd j h2 a ha hab ((ho a ha hab j).1 h1)
    ·exact h.apart a b ha hb hab j ((ho a ha han j).1 h1) ((ho b hb hbn j).1 h2)
  map:=fun j hj=>by
   rw [hm j hj]
   constructor
   ·rintro (h1 | h1 | ⟨n',hn',hne,h1⟩)
    ·exact .inl h1
    ·exact .inr ⟨n,hn,by rw [setV_same];exact h1⟩
    ·exact .inr ⟨n',hn',(ho n' hn' hne j).2 h1⟩
   ·rintro (h1 | ⟨n',hn',h1⟩)
    ·exact .inl h1
    ·by_cases hne:n' = n
     ·rw [hne,setV_same] at h1;exact .inr (.inl h1)
     ·exact .inr (.inr ⟨n',hn',hne,(ho n' hn' hne j).1 h1⟩) }
theorem XInv.nobody (h:XInv m X V) {i:Nat} (hi:i < m) (hu:usedP (X 0) i = false) (n:Nat) (hn:n < 32):¬ ownF X (V n) i:=fun ho=>by
 have:=(h.map i (by have:=h.m512;omega)).2 (.inr ⟨n,hn,ho⟩)
 rw [hu] at this
 cases this
theorem freeTo_mark_true {M M' : ByteArray} {i k : Nat} (hi : i < k) (hu : usedP M i = false) (hM : ∀ j, usedP M' j = if j = i then true else usedP M j) : freeTo M' k + 1 = freeTo M k := by
  induction k with
  | zero => omega
  | succ k ih =>
    rw [freeTo_succ, freeTo_succ, hM k]
    by_cases hk : k = i
    · subst hk
      have hsame : ∀ j, j ≤ k → freeTo M' j = freeTo M j := by
        intro j
        induction j with
        | zero => intro _; rfl
        | succ j ihj => intro hj; have e : usedP M' j = usedP M j := by rw [hM j, if_neg (by omega)]
                        rw [freeTo_succ, freeTo_succ, e, ihj (by omega)]
      rw [if_pos rfl, if_pos rfl, hu, hsame k (Nat.le_refl _)]
      rfl
    · rw [if_neg hk]
      have := ih (by omega)
      split <;> omega
theorem freeTo_mark_false {M M':ByteArray} {i k:Nat} (hi:i < k) (hu:usedP M i = true) (hM:∀ j,usedP M' j = if j = i then false else usedP M j):freeTo M' k = freeTo M k + 1:=by
 have h1:usedP M' i = false:=by rw [hM,if_pos rfl]
 have h2:∀ j,usedP M j = if j = i then true else usedP M' j:=fun j=>by
  by_cases hj:j = i
  ·rw [if_pos hj,hj,hu]
  ·rw [if_neg hj,hM,if_neg hj]
 have:=freeTo_mark_true hi h1 h2
 omega
theorem xnew_ne (m:Nat) (X:Sec) {j:Nat} (h0:j ≠ 0) (hi:j ≠ xtakeN m X):xnew m X j = X j:=by
 unfold xnew
 rw [upd_ne _ _ hi,xmark_ne _ _ _ h0]
theorem xnew_at (m:Nat) (X:Sec):xnew m X (xtakeN m X) = nought:=upd_same _ _ _
theorem xnew_used {X:Sec} (hs:(X 0).size = 64) (hm:m <= 512) (ht:xtakeN m X ≠ 0) (j:Nat):usedP (xnew m X 0) j = if j = xtakeN m X then true else usedP (X 0) j:=by
 obtain ⟨h1,h2,h3⟩:=takeN_free ht
 unfold xnew
 rw [upd_ne _ _ (Ne.symm ht)]
 exact xmark_used hs (by omega) true j
theorem xset_ne (X:Sec) (x:Ino) (c v:Nat) {j:Nat} (hj:¬ (5 <= c /\ j = x.a5)):xset X x c v j = X j:=by
 unfold xset
 by_cases h5:c < 5
 ·rw [if_pos h5]
 ·rw [if_neg h5]
  exact upd_ne _ _ (fun e=>hj ⟨by omega,e⟩)
theorem xset_size {X:Sec} {x:Ino} {c v:Nat} (hc:c < 37) {j:Nat} (hj:(X j).size = 64):(xset X x c v j).size = 64:=by
 unfold xset
 by_cases h5:c < 5
 ·rw [if_pos h5];exact hj
 ·rw [if_neg h5]
  unfold xpatch upd
  split
  ·rename_i e
   subst e
   rw [size_patched (by rw [hj,size_of_list,leBytes_length];omega)];exact hj
  ·exact hj
theorem xat_set {X:Sec} {x:Ino} {c v k:Nat} (hv:v < 65536) (hk:k < 37) (hs:5 <= c -> (X x.a5).size = 64):xat (xset X x c v) (vsetX x c v) k = if k = c then v else xat X x k:=by
 unfold xat xset vsetX
 by_cases h5:c < 5
 ·rw [if_pos h5,if_pos h5]
  by_cases hk5:k < 5
  ·rw [if_pos hk5,if_pos hk5,get_put x c k v (by omega) (by omega)]
  ·rw [if_neg hk5,if_neg hk5,put_a5 x c v h5,if_neg (by omega)]
 ·rw [if_neg h5,if_neg h5]
  by_cases hk5:k < 5
  ·rw [if_pos hk5,if_pos hk5,if_neg (by omega)]
  ·rw [if_neg hk5,if_neg hk5]
   unfold xpatch
   rw [upd_same]
   have hsz:=hs (by omega)
   have hb:(⟨(leBytes v 2).toArray⟩:ByteArray).size = 2:=by rw [size_of_list,leBytes_length]
   by_cases hkc:k = c
   ·subst hkc
    rw [if_pos rfl]
    by_cases hc:2 * (k - 5) + 2 <= 64
    ·exact two_patched hv (by omega)
    ·omega
   ·rw [if_neg hkc]
    by_cases hc:2 * (c - 5) + 2 <= 64
    ·exact two_other (by omega) (by omega)
    ·unfold twoAt
     rw [byteAt_list,byteAt_list,byteAt_list,byteAt_list,toList_patched]
     simp only [List.getD]
     have hl:(X x.a5).data.toList.length = 64:=by rw [bytes_len,hsz]
     rw [List.take_of_length_le (by omega),List.append_assoc,List.getElem?_append_left (by omega),List.getElem?_append_left (by omega)]
structure Grown (m:Nat) (X:Sec) (V:Nat -> Fs) (n c:Nat) (Z:Sec) (x':Ino):Prop where
 inv:XInv m Z (setV V n ⟨x',fun k=>k == c || (V n).P k⟩)
 new:∀ n',n' < 32 -> ¬ ownF X (V n') (xtakeN m X)
 ge:9 <= xtakeN m X /\ xtakeN m X < m
 frame:∀ j,j ≠ 0 -> j ≠ xtakeN m X -> ¬ (5 <= c /\ j = (V n).x.a5) -> Z j = X j
 zero:Z (xtakeN m X) = nought
 at_:∀ k,k < 37 -> xat Z x' k = if k = c then xtakeN m X else if k < 5 \/ (V n).x.a5 ≠ 0 then xat X (V n).x k else xat Z x' k
 room:xroom m Z + 1 = xroom m X
 used:∀ j,usedP (Z 0) j = if j = xtakeN m X then true else usedP (X 0) j
theorem XInv.grow (h:XInv m X V) (hn:n < 32) (hc:c < 37) (hP:(V n).P c = false) (h5:5 <= c -> (V n).x.a5 ≠ 0) (ht:xtakeN m X ≠ 0) :
 Grown m X V n c (xgrow m X (V n).x c).1 (xgrow m X (V n).x c).2:=by
 obtain ⟨t1,t2,t3⟩:=takeN_free ht
 have hf:=h.each n hn
 have hm:=h.m512
 have hm0:0 < m:=by have:=h.m16;omega
 have hno:=h.nobody t2 t3
 have ha5:(V n).x.a5 ≠ 0 -> (V n).x.a5 ≠ xtakeN m X:=fun h0 e=>hno n hn (by rw [<- e];exact own_a5 h0)
 have ha5m:(V n).x.a5 ≠ 0 -> 9 <= (V n).x.a5 /\ (V n).x.a5 < m:=fun h0=>hf.inb _ (own_a5 h0)
 have hY:∀ j,j < m -> (xnew m X j).size = 64:=fun j hj=>by
  by_cases hji:j = xtakeN m X
  ·rw [hji,xnew_at];exact nought_size
  ·unfold xnew
   rw [upd_ne _ _ hji]
   exact xmark_size h.size hm0 (by omega) true j hj
 have hfr:∀ j,j ≠ 0 -> j ≠ xtakeN m X -> ¬ (5 <= c /\ j = (V n).x.a5) -> (xgrow m X (V n).x c).1 j = X j:=fun j h0 hji hja=>by
  show xset (xnew m X) (V n).x c (xtakeN m X) j = X j
  rw [xset_ne _ _ _ _ hja,xnew_ne m X h0 hji]
 have hat:∀ k,k < 37 -> xat (xgrow m X (V n).x c).1 (xgrow m X (V n).x c).2 k = if k = c then xtakeN m X else if k < 5 \/ (V n).x.a5 ≠ 0 then xat X (V n).x k else xat (xgrow m X (V n).x c).1 (xgrow m X (V n).x c).2 k:=fun k hk=>by
  have h1:xat (xgrow m X (V n).x c).1 (xgrow m X (V n).x c).2 k = if k = c then xtakeN m X else xat (xnew m X) (V n).x k:=xat_set (by omega) hk (fun h5c=>hY _ (ha5m (h5 h5c)).2)
  by_cases hkc:k = c
  ·rw [if_pos hkc] at h1 ⊢;exact h1
  ·rw [if_neg hkc] at h1 ⊢
   by_cases hk5:k < 5 \/ (V n).x.a5 ≠ 0
   ·rw [if_pos hk5,h1]
    exact xat_congr _ (hk5.imp id fun h0=>xnew_ne m X h0 (ha5 h0))
   ·rw [if_neg hk5]
 have hx5:(xgrow m X (V n).x c).2.a5 = (V n).x.a5:=vsetX_a5 _ _ _
 have hp:∀ k,(V n).P k = true -> k < 37 /\ (k < 5 \/ (V n).x.a5 ≠ 0):=fun k hk=>⟨hf.p37 k hk,by
  rcases Nat.lt_or_ge k 5 with h' | h'
  ·exact .inl h'
  ·exact .inr (hf.p5 k hk h')⟩
 have hatP:∀ k,(V n).P k = true -> xat (xgrow m X (V n).x c).1 (xgrow m X (V n).x c).2 k = xat X (V n).x k:=fun k hk=>by
  obtain ⟨h1,h2⟩:=hp k hk
  rw [hat k h1,if_neg (fun e=>by rw [e,hP] at hk;cases hk),if_pos h2]
 have hatc:xat (xgrow m X (V n).x c).1 (xgrow m X (V n).x c).2 c = xtakeN m X:=by rw [hat c hc,if_pos rfl]
 have hown:∀ j,ownF (xgrow m X (V n).x c).1 ⟨(xgrow m X (V n).x c).2,fun k=>k == c || (V n).P k⟩ j ↔ ownF X (V n) j \/ j = xtakeN m X:=fun j=>by
  unfold ownF
  constructor
  ·rintro (⟨h1,h2⟩ | ⟨k,hk,rfl⟩)
   ·rw [hx5] at h1 h2;exact .inl (.inl ⟨h1,h2⟩)
   ·simp only [Bool.or_eq_true,beq_iff_eq] at hk
    rcases hk with rfl | hk
    ·exact .inr hatc
    ·exact .inl (.inr ⟨k,hk,hatP k hk⟩)
  ·rintro ((⟨h1,h2⟩ | ⟨k,hk,rfl⟩) | rfl)
   ·exact .inl ⟨by rw [hx5];exact h1,by rw [hx5];exact h2⟩
   ·exact .inr ⟨k,by simp [hk],(hatP k hk).symm⟩
   ·exact .inr ⟨c,by simp,hatc.symm⟩
 have hused:∀ j,usedP ((xgrow m X (V n).x c).1 0) j = if j = xtakeN m X then true else usedP (X 0) j:=fun j=>by
  have h0:(xgrow m X (V n).x c).1 0 = xnew m X 0:=xset_ne _ _ _ _ (fun e=>h5 e.1 e.2.symm)
  rw [h0]
  exact xnew_used (h.size 0 hm0) hm ht j
 have hFOk:FOk m (xgrow m X (V n).x c).1 ⟨(xgrow m X (V n).x c).2,fun k=>k == c || (V n).P k⟩:={
  p37:=fun k hk=>by
   simp only [Bool.or_eq_true,beq_iff_eq] at hk
   rcases hk with rfl | hk
   ·exact hc
   ·exact hf.p37 k hk
  p5:=fun k hk hk5=>by
   show (xgrow m X (V n).x c).2.a5 ≠ 0
   rw [hx5]
   simp only [Bool.or_eq_true,beq_iff_eq] at hk
   rcases hk with rfl | hk
   ·exact h5 hk5
   ·exact hf.p5 k hk hk5
  zero:=fun k hk hPk hk5=>by
   simp only [Bool.or_eq_false_iff,beq_eq_false_iff_ne] at hPk
   have hk5:k < 5 \/ (xgrow m X (V n).x c).2.a5 ≠ 0:=hk5
   rw [hx5] at hk5
   show xat _ (xgrow m X (V n).x c).2 k = 0
   rw [hat k hk,if_neg hPk.1,if_pos hk5]
   exact hf.zero k hk hPk.2 hk5
  inb:=fun j hj=>by
   rcases (hown j).1 hj with h1 | rfl
   ·exact hf.inb j h1
   ·exact ⟨t1,t2⟩
  inj:=fun k l hk hl e=>by
   simp only [Bool.or_eq_true,beq_iff_eq] at hk hl
   rcases hk with rfl | hk <;> rcases hl with rfl | hl
   ·rfl
   ·exact absurd (own_at hl) (by
     have e:xat (xgrow m X (V n).x k).1 (xgrow m X (V n).x k).2 k = xat (xgrow m X (V n).x k).1 (xgrow m X (V n).x k).2 l:=e
     rw [hatc,hatP l hl] at e;rw [<- e];exact hno n hn)
   ·exact absurd (own_at hk) (by
     have e:xat (xgrow m X (V n).x l).1 (xgrow m X (V n).x l).2 k = xat (xgrow m X (V n).x l).1 (xgrow m X (V n).x l).2 l:=e
     rw [hatc,hatP k hk] at e;rw [e];exact hno n hn)
   ·exact hf.inj k l hk hl (by
     have e:xat (xgrow m X (V n).x c).1 (xgrow m X (V n).x c).2 k = xat (xgrow m X (V n).x c).1 (xgrow m X (V n).x c).2 l:=e
     rw [hatP k hk,hatP l hl] at e;exact e)
  ind:=fun k hk h0=>by
   have h0':(V n).x.a5 ≠ 0:=by rw [<- hx5];exact h0
   show xat _ (xgrow m X (V n).x c).2 k ≠ (xgrow m X (V n).x c).2.a5
   rw [hx5]
   simp only [Bool.or_eq_true,beq_iff_eq] at hk
   rcases hk with rfl | hk
   ·rw [hatc];exact fun e=>ha5 h0' e.symm
   ·rw [hatP k hk];exact hf.ind k hk h0' }
 refine ⟨?_,hno,⟨t1,t2⟩,hfr,?_,hat,?_,hused⟩
 ·refine h.rebuild hn ?_ ?_ hFOk ?_ ?_
  ·intro j hj
   exact xset_size hc (hY j hj)
  ·intro n' hn' hne h0
   refine hfr _ h0 (fun e=>hno n' hn' (by rw [<- e];exact own_a5 h0)) (fun ⟨h1,e⟩=>?_)
   exact h.apart n' n hn' hn hne _ (own_a5 h0) (by rw [e];exact own_a5 (h5 h1))
  ·intro j hj n' hn' hne
   rcases (hown j).1 hj with h1 | rfl
   ·exact h.apart n n' hn hn' (Ne.symm hne) j h1
   ·exact hno n' hn'
  ·intro j hj
   rw [hused j]
   by_cases hji:j = xtakeN m X
   ·rw [if_pos hji]
    exact ⟨fun _=>.inr (.inl ((hown j).2 (.inr hji))),fun _=>rfl⟩
   ·rw [if_neg hji,h.map j hj]
    constructor
    ·rintro (h1 | ⟨n',hn',h1⟩)
     ·exact .inl h1
     ·by_cases hne:n' = n
      ·subst hne;exact .inr (.inl ((hown j).2 (.inl h1)))
      ·exact .inr (.inr ⟨n',hn',hne,h1⟩)
    ·rintro (h1 | h1 | ⟨n',hn',_,h1⟩)
     ·exact .inl h1
     ·rcases (hown j).1 h1 with h1 | h1
      ·exact .inr ⟨n,hn,h1⟩
      ·exact absurd h1 hji
     ·exact .inr ⟨n',hn',h1⟩
 ·show xset (xnew m X) (V n).x c (xtakeN m X) (xtakeN m X) = nought
  rw [xset_ne _ _ _ _ (fun e=>ha5 (h5 e.1) e.2.symm)]
  exact xnew_at m X
 ·exact freeTo_mark_true t2 t3 hused
end
section
variable {m:Nat} {X Z:Sec} {V:Nat -> Fs} {f g:Fs} {n c:Nat}
theorem xroom_zero {X Y:Sec} (h:Y 0 = X 0):xroom m Y = xroom m X:=by unfold xroom;rw [h]
structure Indir (m:Nat) (X:Sec) (V:Nat -> Fs) (n:Nat) (Z:Sec) (x':Ino):Prop where
 inv:XInv m Z (setV V n ⟨x',(V n).P⟩)
 new:∀ n',n' < 32 -> ¬ ownF X (V n') (xtakeN m X)
 ge:9 <= xtakeN m X /\ xtakeN m X < m
 frame:∀ j,j ≠ 0 -> j ≠ xtakeN m X -> Z j = X j
 at_:∀ k,k < 5 -> xat Z x' k = xat X (V n).x k
 room:xroom m Z + 1 = xroom m X
 used:∀ j,usedP (Z 0) j = if j = xtakeN m X then true else usedP (X 0) j
theorem XInv.indir (h:XInv m X V) (hn:n < 32) (h5:(V n).x.a5 = 0) (ht:xtakeN m X ≠ 0):Indir m X V n (xnew m X) ((V n).x.put 5 (xtakeN m X)):=by
 obtain ⟨t1,t2,t3⟩:=takeN_free ht
 have hf:=h.each n hn
 have hm:=h.m512
 have hm0:0 < m:=by have:=h.m16;omega
 have hno:=h.nobody t2 t3
 have hp5:∀ k,(V n).P k = true -> k < 5:=fun k hk=>by
  rcases Nat.lt_or_ge k 5 with h' | h'
  ·exact h'
  ·exact absurd h5 (hf.p5 k hk h')
 have hat5:∀ k,k < 5 -> xat (xnew m X) ((V n).x.put 5 (xtakeN m X)) k = xat X (V n).x k:=fun k hk=>by
  unfold xat
  rw [if_pos hk,if_pos hk,get_put _ 5 k _ (by omega) (by omega),if_neg (by omega)]
 have hx5:((V n).x.put 5 (xtakeN m X)).a5 = xtakeN m X:=rfl
 have hat0:∀ k,5 <= k -> xat (xnew m X) ((V n).x.put 5 (xtakeN m X)) k = 0:=fun k hk=>by
  unfold xat
  rw [if_neg (by omega),hx5,xnew_at]
  exact two_nought _
 have hown:∀ j,ownF (xnew m X) ⟨(V n).x.put 5 (xtakeN m X),(V n).P⟩ j ↔ ownF X (V n) j \/ j = xtakeN m X:=fun j=>by
  unfold ownF
  constructor
  ·rintro (⟨_,h2⟩ | ⟨k,hk,rfl⟩)
   ·exact .inr h2
   ·exact .inl (.inr ⟨k,hk,hat5 k (hp5 k hk)⟩)
  ·rintro ((⟨h1,_⟩ | ⟨k,hk,rfl⟩) | rfl)
   ·exact absurd h5 h1
   ·exact .inr ⟨k,hk,(hat5 k (hp5 k hk)).symm⟩
   ·exact .inl ⟨by show xtakeN m X ≠ 0;exact ht,rfl⟩
 have hused:∀ j,usedP (xnew m X 0) j = if j = xtakeN m X then true else usedP (X 0) j:=xnew_used (h.size 0 hm0) hm ht
 have hFOk:FOk m (xnew m X) ⟨(V n).x.put 5 (xtakeN m X),(V n).P⟩:={
  p37:=hf.p37
  p5:=fun k hk hk5=>absurd (hp5 k hk) (by omega)
  zero:=fun k hk hPk _=>by
   rcases Nat.lt_or_ge k 5 with h' | h'
   ·show xat _ ((V n).x.put 5 (xtakeN m X)) k = 0
    rw [hat5 k h'];exact hf.zero k hk hPk (.inl h')
   ·exact hat0 k h'
  inb:=fun j hj=>by
   rcases (hown j).1 hj with h1 | rfl
   ·exact hf.inb j h1
   ·exact ⟨t1,t2⟩
  inj:=fun k l hk hl e=>hf.inj k l hk hl (by rw [<- hat5 k (hp5 k hk),<- hat5 l (hp5 l hl)];exact e)
  ind:=fun k hk _ e=>hno n hn (by
   have e:xat (xnew m X) ((V n).x.put 5 (xtakeN m X)) k = xtakeN m X:=e
   rw [hat5 k (hp5 k hk)] at e
   rw [<- e]
   exact own_at hk) }
 refine ⟨?_,hno,⟨t1,t2⟩,fun j h0 hj=>xnew_ne m X h0 hj,hat5,freeTo_mark_true t2 t3 hused,hused⟩
 refine h.rebuild hn ?_ ?_ hFOk ?_ ?_
 ·intro j hj
  by_cases hji:j = xtakeN m X
  ·rw [hji,xnew_at];exact nought_size
  ·unfold xnew
   rw [upd_ne _ _ hji]
   exact xmark_size h.size hm0 (by omega) true j hj
 ·intro n' hn' hne h0
  exact xnew_ne m X h0 (fun e=>hno n' hn' (by rw [<- e];exact own_a5 h0))
 ·intro j hj n' hn' hne
  rcases (hown j).1 hj with h1 | rfl
  ·exact h.apart n n' hn hn' (Ne.symm hne) j h1
  ·exact hno n' hn'
 ·intro j hj
  rw [hused j]
  by_cases hji:j = xtakeN m X
  ·rw [if_pos hji]
   exact ⟨fun _=>.inr (.inl ((hown j).2 (.inr hji))),fun _=>rfl⟩
  ·rw [if_neg hji,h.map j hj]
   constructor
   ·rintro (h1 | ⟨n',hn',h1⟩)
    ·exact .inl h1
    ·by_cases hne:n' = n
     ·subst hne;exact .inr (.inl ((hown j).2 (.inl h1)))
     ·exact .inr (.inr ⟨n',hn',hne,h1⟩)
   ·rintro (h1 | h1 | ⟨n',hn',_,h1⟩)
    ·exact .inl h1
    ·rcases (hown j).1 h1 with h1 | h1
     ·exact .inr ⟨n,hn,h1⟩
     ·exact absurd h1 hji
    ·exact .inr ⟨n',hn',h1⟩
theorem XInv.lose (h:XInv m X V) (hn:n < 32) {i:Nat} (hi:ownF X (V n) i) (hsz:∀ j,j < m -> (Z j).size = 64) (hfr:∀ j,j ≠ 0 -> ¬ ((V n).x.a5 ≠ 0 /\ j = (V n).x.a5) -> Z j = X j)
 (hused:∀ j,usedP (Z 0) j = if j = i then false else usedP (X 0) j) (hg:FOk m Z g) (hown:∀ j,ownF Z g j ↔ ownF X (V n) j /\ j ≠ i):XInv m Z (setV V n g) /\ xroom m Z = xroom m X + 1:=by
 have hib:=(h.each n hn).inb i hi
 refine ⟨h.rebuild hn hsz ?_ hg ?_ ?_,freeTo_mark_false hib.2 ((h.map i (by have:=h.m512;omega)).2 (.inr ⟨n,hn,hi⟩)) hused⟩
 ·intro n' hn' hne h0
  exact hfr _ h0 (fun e=>h.apart n' n hn' hn hne _ (own_a5 h0) (by rw [e.2];exact own_a5 e.1))
 ·intro j hj n' hn' hne
  exact h.apart n n' hn hn' (Ne.symm hne) j ((hown j).1 hj).1
 ·intro j hj
  rw [hused j]
  by_cases hji:j = i
  ·rw [if_pos hji]
   constructor
   ·intro e;cases e
   ·rintro (h1 | h1 | ⟨n',hn',hne,h1⟩)
    ·omega
    ·exact absurd hji ((hown j).1 h1).2
    ·exact absurd (by rw [<- hji] at hi;exact hi) (h.apart n' n hn' hn hne j h1)
  ·rw [if_neg hji,h.map j hj]
   constructor
   ·rintro (h1 | ⟨n',hn',h1⟩)
    ·exact .inl h1
    ·by_cases hne:n' = n
     ·subst hne;exact .inr (.inl ((hown j).2 ⟨h1,hji⟩))
     ·exact .inr (.inr ⟨n',hn',hne,h1⟩)
   ·rintro (h1 | h1 | ⟨n',hn',_,h1⟩)
    ·exact .inl h1
    ·exact .inr ⟨n,hn,((hown j).1 h1).1⟩
    ·exact .inr ⟨n',hn',h1⟩
structure Cut1 (m:Nat) (X:Sec) (V:Nat -> Fs) (n c:Nat) (Z:Sec) (x':Ino):Prop where
 inv:XInv m Z (setV V n ⟨x',fun k=>k != c && (V n).P k⟩)
 frame:∀ j,j ≠ 0 -> ¬ ((V n).x.a5 ≠ 0 /\ j = (V n).x.a5) -> Z j = X j
 at_:∀ k,k < 37 -> k ≠ c -> k < 5 \/ (V n).x.a5 ≠ 0 -> xat Z x' k = xat X (V n).x k
 a5:x'.a5 = (V n).x.a5
 room:xroom m Z = xroom m X + 1
theorem XInv.cut1 (h:XInv m X V) (hn:n < 32) (hP:(V n).P c = true) :
 Cut1 m X V n c (xset (xmark X (xat X (V n).x c) false) (V n).x c 0) (vsetX (V n).x c 0):=by
 have hf:=h.each n hn
 have hm:=h.m512
 have hm0:0 < m:=by have:=h.m16;omega
 have hc:=hf.p37 c hP
 have hib:=hf.inb _ (own_at hP)
 have hY:∀ j,j < m -> (xmark X (xat X (V n).x c) false j).size = 64:=xmark_size h.size hm0 (by omega) false
 have ha5m:(V n).x.a5 ≠ 0 -> 9 <= (V n).x.a5 /\ (V n).x.a5 < m:=fun h0=>hf.inb _ (own_a5 h0)
 have hc5:5 <= c -> (V n).x.a5 ≠ 0:=hf.p5 c hP
 have hx5:(vsetX (V n).x c 0).a5 = (V n).x.a5:=vsetX_a5 _ _ _
 have hfr:∀ j,j ≠ 0 -> ¬ ((V n).x.a5 ≠ 0 /\ j = (V n).x.a5) -> xset (xmark X (xat X (V n).x c) false) (V n).x c 0 j = X j:=fun j h0 hj=>by
  rw [xset_ne _ _ _ _ (fun e=>hj ⟨hc5 e.1,e.2⟩),xmark_ne _ _ _ h0]
 have hat:∀ k,k < 37 -> xat (xset (xmark X (xat X (V n).x c) false) (V n).x c 0) (vsetX (V n).x c 0) k = if k = c then 0 else xat (xmark X (xat X (V n).x c) false) (V n).x k:=fun k hk =>
  xat_set (by omega) hk (fun h5c=>hY _ (ha5m (hc5 h5c)).2)
 have hat2:∀ k,k < 37 -> k ≠ c -> k < 5 \/ (V n).x.a5 ≠ 0 -> xat (xset (xmark X (xat X (V n).x c) false) (V n).x c 0) (vsetX (V n).x c 0) k = xat X (V n).x k:=fun k hk hkc hk5=>by
  rw [hat k hk,if_neg hkc]
  exact xat_congr _ (hk5.imp id fun h0=>xmark_ne _ _ _ h0)
 have hp:∀ k,(V n).P k = true -> k < 37 /\ (k < 5 \/ (V n).x.a5 ≠ 0):=fun k hk=>⟨hf.p37 k hk,by
  rcases Nat.lt_or_ge k 5 with h' | h'
  ·exact .inl h'
  ·exact .inr (hf.p5 k hk h')⟩
 have hatP:∀ k,(V n).P k = true -> k ≠ c -> xat (xset (xmark X (xat X (V n).x c) false) (V n).x c 0) (vsetX (V n).x c 0) k = xat X (V n).x k:=fun k hk hkc=>hat2 k (hp k hk).1 hkc (hp k hk).2
 have hused:∀ j,usedP (xset (xmark X (xat X (V n).x c) false) (V n).x c 0 0) j = if j = xat X (V n).x c then false else usedP (X 0) j:=fun j=>by
  rw [xset_ne _ _ _ _ (fun e=>hc5 e.1 e.2.symm)]
  exact xmark_used (h.size 0 hm0) (by omega) false j
 have hown:∀ j,ownF (xset (xmark X (xat X (V n).x c) false) (V n).x c 0) ⟨vsetX (V n).x c 0,fun k=>k != c && (V n).P k⟩ j ↔ ownF X (V n) j /\ j ≠ xat X (V n).x c:=fun j=>by
  unfold ownF
  constructor
  ·rintro (⟨h1,h2⟩ | ⟨k,hk,rfl⟩)
   ·have h1:(vsetX (V n).x c 0).a5 ≠ 0:=h1
    have h2:j = (vsetX (V n).x c 0).a5:=h2
    rw [hx5] at h1 h2
    exact ⟨.inl ⟨h1,h2⟩,fun e=>hf.ind c hP h1 (by rw [<- e,h2])⟩
   ·simp only [Bool.and_eq_true,bne_iff_ne] at hk
    show (_ \/ ∃ k',(V n).P k' = true /\ xat _ (vsetX (V n).x c 0) k = _) /\ xat _ (vsetX (V n).x c 0) k ≠ _
    rw [hatP k hk.2 hk.1]
    exact ⟨.inr ⟨k,hk.2,rfl⟩,fun e=>hk.1 (hf.inj k c hk.2 hP e)⟩
  ·rintro ⟨⟨h1,h2⟩ | ⟨k,hk,rfl⟩,hne⟩
   ·exact .inl ⟨by show (vsetX (V n).x c 0).a5 ≠ 0;rw [hx5];exact h1,by show j = (vsetX (V n).x c 0).a5;rw [hx5];exact h2⟩
   ·have hkc:k ≠ c:=fun e=>hne (by rw [e])
    exact .inr ⟨k,by simp [hk,hkc],(hatP k hk hkc).symm⟩
 have hFOk:FOk m (xset (xmark X (xat X (V n).x c) false) (V n).x c 0) ⟨vsetX (V n).x c 0,fun k=>k != c && (V n).P k⟩:={
  p37:=fun k hk=>by simp only [Bool.and_eq_true] at hk;exact hf.p37 k hk.2
  p5:=fun k hk hk5=>by
   show (vsetX (V n).x c 0).a5 ≠ 0
   rw [hx5];simp only [Bool.and_eq_true] at hk;exact hf.p5 k hk.2 hk5
  zero:=fun k hk hPk hk5=>by
   have hk5:k < 5 \/ (vsetX (V n).x c 0).a5 ≠ 0:=hk5
   rw [hx5] at hk5
   show xat _ (vsetX (V n).x c 0) k = 0
   by_cases hkc:k = c
   ·rw [hat k hk,if_pos hkc]
   ·rw [hat2 k hk hkc hk5]
    exact hf.zero k hk (by simpa [hkc] using hPk) hk5
  inb:=fun j hj=>hf.inb j ((hown j).1 hj).1
  inj:=fun k l hk hl e=>by
   simp only [Bool.and_eq_true,bne_iff_ne] at hk hl
   exact hf.inj k l hk.2 hl.2 (by
    have e:xat _ (vsetX (V n).x c 0) k = xat _ (vsetX (V n).x c 0) l:=e
    rw [hatP k hk.2 hk.1,hatP l hl.2 hl.1] at e;exact e)
  ind:=fun k hk h0=>by
   have h0':(V n).x.a5 ≠ 0:=by rw [<- hx5];exact h0
   simp only [Bool.and_eq_true,bne_iff_ne] at hk
   show xat _ (vsetX (V n).x c 0) k ≠ (vsetX (V n).x c 0).a5
   rw [hx5,hatP k hk.2 hk.1]
   exact hf.ind k hk.2 h0' }
 obtain ⟨r1,r2⟩:=h.lose hn (own_at hP) (fun j hj=>xset_size hc (hY j hj)) hfr hused hFOk hown
 exact ⟨r1,hfr,hat2,hx5,r2⟩
structure Drop5 (m:Nat) (X:Sec) (V:Nat -> Fs) (n:Nat) (Z:Sec):Prop where
 inv:XInv m Z (setV V n ⟨(V n).x.put 5 0,(V n).P⟩)
 frame:∀ j,j ≠ 0 -> Z j = X j
 room:xroom m Z = xroom m X + 1
theorem XInv.drop5 (h:XInv m X V) (hn:n < 32) (h5:(V n).x.a5 ≠ 0) (hp5:∀ k,(V n).P k = true -> k < 5):Drop5 m X V n (xmark X (V n).x.a5 false):=by
 have hf:=h.each n hn
 have hm:=h.m512
 have hm0:0 < m:=by have:=h.m16;omega
 have hib:=hf.inb _ (own_a5 h5)
 have hat5:∀ k,k < 5 -> xat (xmark X (V n).x.a5 false) ((V n).x.put 5 0) k = xat X (V n).x k:=fun k hk=>by
  unfold xat
  rw [if_pos hk,if_pos hk,get_put _ 5 k _ (by omega) (by omega),if_neg (by omega)]
 have hx5:((V n).x.put 5 0).a5 = 0:=rfl
 have hown:∀ j,ownF (xmark X (V n).x.a5 false) ⟨(V n).x.put 5 0,(V n).P⟩ j ↔ ownF X (V n) j /\ j ≠ (V n).x.a5:=fun j=>by
  unfold ownF
  constructor
  ·rintro (⟨h1,_⟩ | ⟨k,hk,rfl⟩)
   ·exact absurd rfl h1
   ·show (_ \/ ∃ k',(V n).P k' = true /\ xat _ ((V n).x.put 5 0) k = _) /\ xat _ ((V n).x.put 5 0) k ≠ _
    rw [hat5 k (hp5 k hk)]
    exact ⟨.inr ⟨k,hk,rfl⟩,hf.ind k hk h5⟩
  ·rintro ⟨⟨_,h2⟩ | ⟨k,hk,rfl⟩,hne⟩
   ·exact absurd h2 hne
   ·exact .inr ⟨k,hk,(hat5 k (hp5 k hk)).symm⟩
 have hFOk:FOk m (xmark X (V n).x.a5 false) ⟨(V n).x.put 5 0,(V n).P⟩:={
  p37:=hf.p37
  p5:=fun k hk hk5=>absurd (hp5 k hk) (by omega)
  zero:=fun k hk hPk hk5=>by
   rcases hk5 with h' | h'
   ·show xat _ ((V n).x.put 5 0) k = 0
    rw [hat5 k h'];exact hf.zero k hk hPk (.inl h')
   ·exact absurd rfl h'
  inb:=fun j hj=>hf.inb j ((hown j).1 hj).1
  inj:=fun k l hk hl e=>hf.inj k l hk hl (by rw [<- hat5 k (hp5 k hk),<- hat5 l (hp5 l hl)];exact e)
  ind:=fun k hk h0=>absurd rfl h0 }
 obtain ⟨r1,r2⟩:=h.lose hn (own_a5 h5) (Z:=xmark X (V n).x.a5 false) (xmark_size h.size hm0 (by omega) false) (fun j h0 _=>xmark_ne _ _ _ h0) (xmark_used (h.size 0 hm0) (by omega) false) hFOk hown
 exact ⟨r1,fun j h0=>xmark_ne _ _ _ h0,r2⟩
theorem xkeep_ne (X:Sec) (n:Nat) (y:Ino) {j:Nat} (hj:j ≠ 1 + n / 4):xkeep X n y j = X j:=upd_ne _ _ hj
theorem xkeep_inode {X:Sec} (hs:∀ j,j < m -> (X j).size = 64) (hm:16 <= m) {n n':Nat} (hn:n < 32) (_hn':n' < 32) {y:Ino} (hy:y.Ok):xinode (xkeep X n y) n' = if n' = n then y else xinode X n':=by
 have hsz:=hs (1 + n / 4) (by omega)
 have he:=encodeP_size y
 unfold xinode
 by_cases hq:1 + n' / 4 = 1 + n / 4
 ·rw [hq]
  unfold xkeep xpatch
  rw [upd_same]
  by_cases hnn:n' = n
  ·rw [if_pos hnn,hnn]
   exact decode_patched hy (by omega)
  ·rw [if_neg hnn]
   exact decode_other (by omega) (by omega)
 ·rw [if_neg (fun e=>hq (by rw [e])),xkeep_ne _ _ _ hq]
theorem XInv.keep (h:XInv m X V) (hn:n < 32) (y:Ino):XInv m (xkeep X n y) V :=
 h.write (by omega) (fun n' hn' h5=>h.low (by omega) n' hn' h5) (by rw [size_patched (by rw [h.size _ (by have:=h.m16;omega),encodeP_size];omega)];exact h.size _ (by have:=h.m16;omega))
end
structure Node where
 kind:Nat
 links:Nat
 data:List UInt8
 deriving DecidableEq
def Node.free:Node:=⟨0,0,[]⟩
def fbyte (X:Sec) (x:Ino) (p:Nat):Nat:=byteAt (X (xat X x (p / 64))) (p % 64)
def dataX (X:Sec) (x:Ino):List UInt8:=(List.range x.size).map fun p=>UInt8.ofNat (fbyte X x p)
def nodeX (X:Sec) (x:Ino):Node:=⟨x.kind,x.links,dataX X x⟩
def base (X:Sec):Nat -> Fs:=fun n=>⟨xinode X n,fun k=>decide (k < sectorsP (xinode X n).size)⟩
structure InoGood (x:Ino):Prop where
 kind:x.kind <= 2
 links:x.links < 256
 size:x.size <= 2368
 free:x.kind = 0 -> x = Ino.free
 a5:sectorsP x.size <= 5 -> x.a5 = 0
def sumT (A:Nat -> Node):Nat -> Nat
 | 0=>0
 | k + 1=>sumT A k + takesP (A k).data.length
def setA (A:Nat -> Node) (n:Nat) (d:Node):Nat -> Node:=fun j=>if j = n then d else A j
structure IsVol (m:Nat) (X:Sec) (A:Nat -> Node):Prop where
 inv:XInv m X (base X)
 good:∀ n,n < 32 -> InoGood (xinode X n)
 node:∀ n,n < 32 -> A n = nodeX X (xinode X n)
 room:xroom m X + sumT A 32 + 9 = m
theorem dataX_length (X:Sec) (x:Ino):(dataX X x).length = x.size:=by simp [dataX]
theorem sumT_set (A:Nat -> Node) {n:Nat} (d:Node) {k:Nat} (hn:n < k):sumT (setA A n d) k + takesP (A n).data.length = sumT A k + takesP d.data.length:=by
 induction k with
 | zero=>omega
 | succ k ih =>
  unfold sumT
  by_cases hk:k = n
  ·subst hk
   have hsame:∀ j,j <= k -> sumT (setA A k d) j = sumT A j:=by
    intro j
    induction j with
    | zero=>intro _;rfl
    | succ j ihj =>
     intro hj
     unfold sumT
     rw [ihj (by omega)]
     have:setA A k d j = A j:=if_neg (by omega)
     rw [this]
   rw [hsame k (Nat.le_refl _)]
   have:setA A k d k = d:=if_pos rfl
   rw [this]
   omega
  ·have:=ih (by omega)
   have e:setA A n d k = A k:=if_neg hk
   rw [e]
   omega
theorem sumT_congr {A B:Nat -> Node} {k:Nat} (h:∀ n,n < k -> A n = B n):sumT A k = sumT B k:=by
 induction k with
 | zero=>rfl
 | succ k ih=>unfold sumT;rw [ih fun n hn=>h n (by omega),h k (by omega)]
theorem u8_byte (n:Nat) (h:n < 256):(UInt8.ofNat n).toNat = n:=by rw [UInt8.toNat_ofNat'];omega
theorem div64_lt {p n:Nat} (h:p < n):p / 64 < sectorsP n:=by unfold sectorsP;omega
theorem sectors_le (n:Nat) (h:n <= 2368):sectorsP n <= 37:=by unfold sectorsP;omega
section
variable {m:Nat} {X Y:Sec} {V:Nat -> Fs} {f:Fs} {x:Ino} {A:Nat -> Node}
theorem dataX_congr (hf:FOk m X f) (hx:f.x = x) (hP:∀ k,k < sectorsP x.size -> f.P k = true) (hY:∀ j,ownF X f j -> Y j = X j):dataX Y x = dataX X x:=by
 subst hx
 unfold dataX
 apply List.map_congr_left
 intro p hp
 have hk:=hP _ (div64_lt (List.mem_range.1 hp))
 have hat:xat Y f.x (p / 64) = xat X f.x (p / 64):=xat_congr _ (by
  rcases Nat.lt_or_ge (p / 64) 5 with h5 | h5
  ·exact .inl h5
  ·exact .inr (hY _ (own_a5 (hf.p5 _ hk h5))))
 unfold fbyte
 rw [hat,hY _ (own_at hk)]
theorem IsVol.ok (h:IsVol m X A) {n:Nat} (hn:n < 32):FOk m X (base X n):=h.inv.each n hn
theorem IsVol.len (h:IsVol m X A) {n:Nat} (hn:n < 32):(A n).data.length = (xinode X n).size:=by rw [h.node n hn];exact dataX_length _ _
theorem IsVol.kind (h:IsVol m X A) {n:Nat} (hn:n < 32):(A n).kind = (xinode X n).kind:=by rw [h.node n hn];rfl
theorem IsVol.links (h:IsVol m X A) {n:Nat} (hn:n < 32):(A n).links = (xinode X n).links:=by rw [h.node n hn];rfl
theorem IsVol.of_eq (h:IsVol m X A) {A':Nat -> Node} (e:∀ n,n < 32 -> A' n = A n):IsVol m X A' :=
 ⟨h.inv,h.good,fun n hn=>(e n hn).trans (h.node n hn),by rw [sumT_congr e];exact h.room⟩
theorem base_P (X:Sec) {n k:Nat} (h:k < sectorsP (xinode X n).size):(base X n).P k = true:=by unfold base;simpa using h
theorem IsVol.turn (h:IsVol m X A) {n:Nat} (hn:n < 32) {Z:Sec} {y:Ino} (hg:InoGood y) (hy:y.Ok) (hinv:XInv m Z (setV (base X) n ⟨y,fun k=>decide (k < sectorsP y.size)⟩))
 (hino:∀ j,1 <= j -> j < 9 -> Z j = X j) (hoth:∀ n',n' < 32 -> n' ≠ n -> ∀ j,ownF X (base X n') j -> Z j = X j) {d:Node} (hd:d = nodeX Z y) (hroom:xroom m Z + takesP y.size = xroom m X + takesP (A n).data.length) :
 IsVol m (xkeep Z n y) (setA A n d):=by
 have hs:=hinv.size
 have hm:=hinv.m16
 have hiZ:∀ n',n' < 32 -> xinode Z n' = xinode X n':=fun n' hn'=>by unfold xinode;rw [hino _ (by omega) (by omega)]
 have hi:∀ n',n' < 32 -> xinode (xkeep Z n y) n' = if n' = n then y else xinode X n':=fun n' hn'=>by rw [xkeep_inode hs hm hn hn' hy,hiZ n' hn']
 have hbase:∀ n',n' < 32 -> base (xkeep Z n y) n' = setV (base X) n ⟨y,fun k=>decide (k < sectorsP y.size)⟩ n':=fun n' hn'=>by
  unfold base
  by_cases hne:n' = n
  ·subst hne
   rw [setV_same,hi n' hn',if_pos rfl]
  ·rw [setV_ne _ _ hne,hi n' hn',if_neg hne]
 have hown:∀ n',n' < 32 -> n' ≠ n -> ∀ j,ownF X (base X n') j -> xkeep Z n y j = X j:=fun n' hn' hne j hj=>by
  have:=(h.ok hn').inb j hj
  rw [xkeep_ne _ _ _ (by omega),hoth n' hn' hne j hj]
 refine ⟨(hinv.keep hn y).of_eq hbase,?_,?_,?_⟩
 ·intro n' hn'
  rw [hi n' hn']
  split
  ·exact hg
  ·exact h.good n' hn'
 ·intro n' hn'
  rw [hi n' hn']
  unfold setA
  by_cases hne:n' = n
  ·rw [if_pos hne,if_pos hne,hd]
   have hf:=hinv.each n hn
   rw [setV_same] at hf
   have e:dataX (xkeep Z n y) y = dataX Z y:=dataX_congr (Y:=xkeep Z n y) (x:=y) hf rfl (fun k hk=>decide_eq_true hk) (fun j hj=>xkeep_ne _ _ _ (by have:=hf.inb j hj;omega))
   unfold nodeX
   rw [e]
  ·rw [if_neg hne,if_neg hne,h.node n' hn']
   have e:dataX (xkeep Z n y) (xinode X n') = dataX X (xinode X n'):=dataX_congr (Y:=xkeep Z n y) (h.ok hn') rfl (fun k hk=>base_P X hk) (hown n' hn' hne)
   unfold nodeX
   rw [e]
 ·have hr:xroom m (xkeep Z n y) = xroom m Z:=xroom_zero (xkeep_ne _ _ _ (by omega))
  rw [hr]
  have h1:=sumT_set A d hn
  have h2:d.data.length = y.size:=by rw [hd];exact dataX_length _ _
  rw [h2] at h1
  have h3:=h.room
  omega
end
end Go.Proofs.YtngalllaiphkhaaGreatDoor
