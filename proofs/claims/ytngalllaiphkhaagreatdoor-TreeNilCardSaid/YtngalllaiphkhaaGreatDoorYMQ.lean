import Derived.Test.YtngalllaiphkhaaGreatDoorYMP
namespace Go.Proofs.YtngalllaiphkhaaGreatDoor
structure Grw (m:Nat) (H X:Sec) (K:List Nat) (L:LSt) (V:Nat -> Fs) (n:Nat) (x:Ino) (k0 J:Nat) (Y:Sec) (K':List Nat):Prop where
 alv:Alv m H Y K' (growF (L,x) k0 J).1
 inv:XInv m Y (setV V n ⟨(growF (L,x) k0 J).2,fun k=>decide (k < k0 + J)⟩)
 klen:K'.length = K.length + J
 kin:∀ i ∈ K,i ∈ K'
 knew:∀ i,i < J -> xat Y (growF (L,x) k0 J).2 (k0 + i) ∈ K'
 zero:∀ i,i < J -> Y (xat Y (growF (L,x) k0 J).2 (k0 + i)) = nought
 old:∀ k,k < k0 -> xat Y (growF (L,x) k0 J).2 k = xat X x k
 frame:∀ t,t ≠ 0 -> ¬ (x.a5 ≠ 0 /\ t = x.a5) -> (∀ i,i < J -> t ≠ xat Y (growF (L,x) k0 J).2 (k0 + i)) -> Y t = X t
 nobody:∀ i,i < J -> ∀ n',n' < 32 -> ¬ ownF X (V n') (xat Y (growF (L,x) k0 J).2 (k0 + i))
 room:xroom m Y + J = xroom m X
 a5:(growF (L,x) k0 J).2.a5 = x.a5
 used:∀ j,usedP (X 0) j = true -> usedP (Y 0) j = true
section
variable {m:Nat} {H X:Sec} {K:List Nat} {L:LSt} {V:Nat -> Fs} {n k0:Nat} {x:Ino}
theorem grow_all (h:Alv m H X K L) (hI:XInv m X V) (hn:n < 32) (hx:V n = ⟨x,fun k=>decide (k < k0)⟩) (h0:0 ∈ K) (ha:x.a5 ≠ 0 -> x.a5 ∈ K) :
 ∀ J,J <= xroom m X -> k0 + J <= 37 -> (5 < k0 + J -> x.a5 ≠ 0) -> K.length + J <= 29 -> ∃ Y K',Grw m H X K L V n x k0 J Y K'
 | 0,_,_,_,_=>⟨X,K,{
  alv:=h,inv:=hI.of_eq fun n' _=>(by
   by_cases hne:n' = n
   ·rw [hne,setV_same,hx];rfl
   ·rw [setV_ne _ _ hne])
  klen:=rfl,kin:=fun _ h=>h,knew:=fun i h=>absurd h (Nat.not_lt_zero i),zero:=fun i h=>absurd h (Nat.not_lt_zero i),old:=fun _ _=>rfl,
  frame:=fun _ _ _ _=>rfl,nobody:=fun i h=>absurd h (Nat.not_lt_zero i),room:=rfl,a5:=rfl,used:=fun _ h=>h }⟩
 | J + 1,hr,h37,h5,hK=>by
  obtain ⟨Y,K',G⟩:=grow_all h hI hn hx h0 ha J (by omega) (by omega) (fun e=>h5 (by omega)) (by omega)
  have ga:=G.alv
  have gi:=G.inv
  have gknew:=G.knew
  have gzero:=G.zero
  have gold:=G.old
  have gframe:=G.frame
  have gnob:=G.nobody
  have gA5:=G.a5
  have gsucc:=growF_succ (L,x) k0 J
  generalize growF (L,x) k0 J = p at ga gi gknew gzero gold gframe gnob gA5 gsucc
  obtain ⟨Lj,xj⟩:=p
  have ga:Alv m H Y K' Lj:=ga
  have gi:XInv m Y (setV V n ⟨xj,fun k=>decide (k < k0 + J)⟩):=gi
  have gA5:xj.a5 = x.a5:=gA5
  have hsame:setV V n ⟨xj,fun k=>decide (k < k0 + J)⟩ n = ⟨xj,fun k=>decide (k < k0 + J)⟩:=setV_same _ _ _
  have hf:=gi.each n hn
  rw [hsame] at hf
  have ht:xtakeN m Y ≠ 0:=takeN_pos (by have:=G.room;omega) gi.nine
  have hc5:5 <= k0 + J -> xj.a5 ≠ 0:=fun e=>by rw [gA5];exact h5 (by omega)
  have W:=gi.grow (c:=k0 + J) hn (by omega) (by rw [hsame];exact decide_eq_false (by omega)) (by rw [hsame];exact hc5) ht
  rw [hsame] at W
  have wAt:=W.at_
  have wFr:=W.frame
  have wInv:=W.inv
  rw [hsame] at wAt wInv
  have wFr:∀ j,j ≠ 0 -> j ≠ xtakeN m Y -> ¬ (5 <= k0 + J /\ j = xj.a5) -> (xgrow m Y xj (k0 + J)).1 j = Y j:=fun j h1 h2 h3=>wFr j h1 h2 (by rw [hsame];exact h3)
  have hx5:(xgrow m Y xj (k0 + J)).2.a5 = xj.a5:=vsetX_a5 _ _ _
  have wNew:¬ ownF Y ⟨xj,fun k=>decide (k < k0 + J)⟩ (xtakeN m Y):=by have:=W.new n hn;rwa [hsame] at this
  obtain ⟨w1,w2⟩:=(ga.more (K':=xtakeN m Y :: K') fun i hi=>List.mem_cons_of_mem _ hi).grow xj (c:=k0 + J) (by omega)
   (by
    rcases Nat.lt_or_ge (k0 + J) 5 with hlt | hge
    ·exact .inl hlt
    ·have:=hc5 hge
     exact .inr ⟨(hf.inb _ (own_a5 this)).2,List.mem_cons_of_mem _ (G.kin _ (by rw [gA5] at this ⊢;exact ha this))⟩)
   ht (List.mem_cons_of_mem _ (G.kin 0 h0)) (List.mem_cons_self ..) (by have:=G.klen;simp only [List.length_cons];omega)
  have hgr:growF (L,x) k0 (J + 1) = ((vgrow (Lj,xj) (k0 + J)).1,(xgrow m Y xj (k0 + J)).2):=by rw [gsucc];exact w1
  have hatlt:∀ k,k < k0 + J -> xat (xgrow m Y xj (k0 + J)).1 (xgrow m Y xj (k0 + J)).2 k = xat Y xj k:=fun k hk=>by
   rw [wAt k (by omega),if_neg (by omega),if_pos]
   rcases Nat.lt_or_ge k 5 with hlt | hge
   ·exact .inl hlt
   ·exact .inr (hc5 (by omega))
  have hatc:xat (xgrow m Y xj (k0 + J)).1 (xgrow m Y xj (k0 + J)).2 (k0 + J) = xtakeN m Y:=by rw [wAt _ (by omega),if_pos rfl]
  refine ⟨(xgrow m Y xj (k0 + J)).1,xtakeN m Y :: K',?_⟩
  exact {
   alv:=by rw [hgr];exact w2
   inv:=by
    rw [hgr]
    refine wInv.of_eq fun n' hn'=>?_
    by_cases hne:n' = n
    ·rw [hne,setV_same,setV_same]
     congr 1
     funext k
     show decide (k < k0 + (J + 1)) = (k == k0 + J || decide (k < k0 + J))
     rcases Nat.lt_trichotomy k (k0 + J) with h1 | h1 | h1
     ·rw [decide_eq_true (show k < k0 + (J + 1) by omega),decide_eq_true h1,Bool.or_true]
     ·rw [decide_eq_true (show k < k0 + (J + 1) by omega),h1,beq_self_eq_true,Bool.true_or]
     ·rw [decide_eq_false (show ¬ k < k0 + (J + 1) by omega),decide_eq_false (show ¬ k < k0 + J by omega),beq_eq_false_iff_ne.2 (show k ≠ k0 + J by omega),Bool.or_false]
    ·rw [setV_ne _ _ hne,setV_ne _ _ hne,setV_ne _ _ hne]
   klen:=by rw [List.length_cons,G.klen];omega
   kin:=fun i hi=>List.mem_cons_of_mem _ (G.kin i hi)
   knew:=fun i hi=>by
    rw [hgr]
    rcases Nat.lt_or_ge i J with hlt | hge
    ·show xat _ (xgrow m Y xj (k0 + J)).2 (k0 + i) ∈ _
     rw [hatlt (k0 + i) (by omega)];exact List.mem_cons_of_mem _ (gknew i hlt)
    ·obtain rfl:i = J:=by omega
     show xat _ (xgrow m Y xj (k0 + i)).2 (k0 + i) ∈ _
     rw [hatc];exact List.mem_cons_self ..
   zero:=fun i hi=>by
    rw [hgr]
    rcases Nat.lt_or_ge i J with hlt | hge
    ·show (xgrow m Y xj (k0 + J)).1 (xat _ (xgrow m Y xj (k0 + J)).2 (k0 + i)) = nought
     rw [hatlt (k0 + i) (by omega)]
     have ho:ownF Y ⟨xj,fun k=>decide (k < k0 + J)⟩ (xat Y xj (k0 + i)):=.inr ⟨k0 + i,decide_eq_true (by omega),rfl⟩
     have hb:=hf.inb _ ho
     rw [wFr (xat Y xj (k0 + i)) (by omega) (fun e=>wNew (by rw [<- e];exact ho)) (fun e=>hf.ind (k0 + i) (decide_eq_true (by omega)) (hc5 e.1) e.2)]
     exact gzero i hlt
    ·obtain rfl:i = J:=by omega
     show (xgrow m Y xj (k0 + i)).1 (xat _ (xgrow m Y xj (k0 + i)).2 (k0 + i)) = nought
     rw [hatc];exact W.zero
   old:=fun k hk=>by
    rw [hgr]
    show xat _ (xgrow m Y xj (k0 + J)).2 k = _
    rw [hatlt k (by omega)];exact gold k hk
   frame:=fun t h1 h2 h3=>by
    rw [hgr] at h3
    have h3:∀ i,i < J + 1 -> t ≠ xat (xgrow m Y xj (k0 + J)).1 (xgrow m Y xj (k0 + J)).2 (k0 + i):=h3
    rw [wFr t h1 (by have:=h3 J (by omega);rwa [hatc] at this) (fun e=>h2 ⟨by rw [<- gA5];exact hc5 e.1,by rw [<- gA5];exact e.2⟩)]
    exact gframe t h1 h2 fun i hi=>by have:=h3 i (by omega);rwa [hatlt (k0 + i) (by omega)] at this
   nobody:=fun i hi n' hn'=>by
    rw [hgr]
    rcases Nat.lt_or_ge i J with hlt | hge
    ·show ¬ ownF X (V n') (xat _ (xgrow m Y xj (k0 + J)).2 (k0 + i))
     rw [hatlt (k0 + i) (by omega)];exact gnob i hlt n' hn'
    ·obtain rfl:i = J:=by omega
     show ¬ ownF X (V n') (xat _ (xgrow m Y xj (k0 + i)).2 (k0 + i))
     rw [hatc]
     obtain ⟨t1,t2,t3⟩:=takeN_free ht
     refine hI.nobody t2 ?_ n' hn'
     cases hu:usedP (X 0) (xtakeN m Y) with
     | false=>rfl
     | true=>rw [G.used _ hu] at t3;cases t3
   room:=by have h1:xroom m (xgrow m Y xj (k0 + J)).1 + 1 = xroom m Y:=W.room;have h2:=G.room;omega
   a5:=by rw [hgr];show (xgrow m Y xj (k0 + J)).2.a5 = _;rw [hx5,gA5]
   used:=fun j hj=>by
    rw [W.used j]
    split
    ·rfl
    ·exact G.used j hj }
end
structure Putd (m:Nat) (H X:Sec) (K:List Nat) (V:Nat -> Fs) (x:Ino) (c off:Nat) (s:ByteArray) (M:LSt) (Y:Sec):Prop where
 alv:Alv m H Y K M
 inv:XInv m Y V
 frame:∀ t,(∀ k,k < c -> t ≠ xat X x k) -> Y t = X t
 bytes:∀ p,p < 64 * c -> fbyte Y x p = if off <= p /\ p < off + s.size then byteAt s (p - off) else fbyte X x p
 at_:∀ k,k < c -> xat Y x k = xat X x k
section
variable {m:Nat} {H:Sec} {K:List Nat} {V:Nat -> Fs} {n c:Nat} {x:Ino}
theorem put_all (hn:n < 32) (hx:V n = ⟨x,fun k=>decide (k < c)⟩) (hK:K.length <= 29) :
 ∀ (f:Nat) (L:LSt) (X:Sec) (off:Nat) (s:ByteArray),Alv m H X K L -> XInv m X V -> s.size <= f -> off + s.size <= 64 * c -> (∀ k,off / 64 <= k -> 64 * k < off + s.size -> xat X x k ∈ K) ->
  ∃ Y,Putd m H X K V x c off s (vput x f L off s) Y
 | 0,L,X,off,s,h,hI,hf,_,_=>⟨X,by
  rw [vput_nil x 0 L off s (by omega)]
  exact ⟨h,hI,fun _ _=>rfl,fun p _=>by rw [if_neg (by omega)],fun _ _=>rfl⟩⟩
 | f + 1,L,X,off,s,h,hI,hf,hc,hk=>by
  by_cases hs:s.size = 0
  ·refine ⟨X,?_⟩
   rw [vput_nil x _ L off s hs]
   exact ⟨h,hI,fun _ _=>rfl,fun p _=>by rw [if_neg (by omega)],fun _ _=>rfl⟩
  ·rw [vput_succ x f L off s hs]
   obtain ⟨nn,hnn⟩:∃ nn,nn = min s.size (64 - off % 64):=⟨_,rfl⟩
   rw [<- hnn]
   have hfo:=hI.each n hn
   rw [hx] at hfo
   have hkc:off / 64 < c:=by omega
   have hown:∀ k,k < c -> ownF X ⟨x,fun k=>decide (k < c)⟩ (xat X x k):=fun k hkc=>.inr ⟨k,decide_eq_true hkc,rfl⟩
   have hib:=hfo.inb _ (hown _ hkc)
   have h5:∀ k,k < c -> k < 5 \/ x.a5 ≠ 0:=fun k hkc=>by
    rcases Nat.lt_or_ge k 5 with hlt | hge
    ·exact .inl hlt
    ·exact .inr (hfo.p5 k (decide_eq_true hkc) hge)
   have hvat:vat L x (off / 64) = xat X x (off / 64):=h.at_ x ((h5 _ hkc).imp id fun h0=>(hfo.inb _ (.inl ⟨h0,rfl⟩)).2)
   have hs1:(s.extract 0 nn).size = nn:=by rw [ByteArray.size_extract];omega
   have hs2:(s.extract nn s.size).size = s.size - nn:=by rw [ByteArray.size_extract];omega
   have hA:=h.patch hib.2 (hk _ (Nat.le_refl _) (by omega)) hK (off:=off % 64) (s:=s.extract 0 nn) (by rw [hs1];omega)
   rw [<- hvat] at hA
   obtain ⟨X1,hX1⟩:∃ X1,X1 = xpatch X (vat L x (off / 64)) (off % 64) (s.extract 0 nn):=⟨_,rfl⟩
   rw [<- hX1] at hA
   rw [hvat] at hX1 hA ⊢
   have hsz:(X (xat X x (off / 64))).size = 64:=hI.size _ hib.2
   have hI1:XInv m X1 V:=by
    rw [hX1]
    have:=hI.data hn (k:=off / 64) (by rw [hx];exact decide_eq_true hkc) (s:=patched (X (xat X x (off / 64))) (off % 64) (s.extract 0 nn)) (by rw [size_patched (by rw [hs1];omega)];exact hsz)
    rw [hx] at this
    exact this
   have hne:∀ t,t ≠ xat X x (off / 64) -> X1 t = X t:=fun t ht=>by rw [hX1];exact upd_ne _ _ ht
   have hat:∀ k,k < c -> xat X1 x k = xat X x k:=fun k hkc'=>xat_congr x ((h5 k hkc').imp id fun h0=>hne _ fun e=>hfo.ind _ (decide_eq_true hkc) h0 e.symm)
   obtain ⟨Y,G⟩:=put_all hn hx hK f _ X1 (off + nn) (s.extract nn s.size) hA hI1 (by rw [hs2];omega) (by rw [hs2];omega) (fun k hk1 hk2=>by
    rw [hs2] at hk2
    rw [hat k (by omega)]
    exact hk k (by omega) (by omega))
   refine ⟨Y,G.alv,G.inv,fun t ht=>?_,fun p hp=>?_,fun k hkc'=>by rw [G.at_ k hkc',hat k hkc']⟩
   ·rw [G.frame t (fun k hkc'=>by rw [hat k hkc'];exact ht k hkc'),hne t (ht _ hkc)]
   ·rw [G.bytes p hp,hs2]
    by_cases h1:off + nn <= p /\ p < off + nn + (s.size - nn)
    ·rw [if_pos h1,if_pos (by omega),byteAt_extract (by omega),show nn + (p - (off + nn)) = p - off by omega]
    ·rw [if_neg h1]
     unfold fbyte
     rw [hat _ (by omega)]
     by_cases hpk:p / 64 = off / 64
     ·rw [hpk,hX1]
      show byteAt (upd X _ _ _) _ = _
      rw [upd_same,byteAt_patched (by rw [hs1];omega),hs1]
      by_cases h2:p % 64 < off % 64
      ·rw [if_pos h2,if_neg (by omega)]
      ·rw [if_neg h2]
       by_cases h3:p % 64 < off % 64 + nn
       ·rw [if_pos h3,if_pos (by omega),byteAt_extract (by omega),Nat.zero_add,show p % 64 - off % 64 = p - off by omega]
       ·rw [if_neg h3,if_neg (by omega)]
     ·rw [hne _ (fun e=>hpk (hfo.inj _ _ (decide_eq_true (by omega)) (decide_eq_true hkc) e)),if_neg (by omega)]
end
def afindE (A:Nat -> Node) (n:Int):Int:=if n < 0 \/ 32 <= n then 1 else if (A n.toNat).kind = 0 then 5 else 0
def aroom (m:Nat) (A:Nat -> Node):Nat:=m - 9 - sumT A 32
def splice (d:List UInt8) (off:Nat) (s:List UInt8):List UInt8:=d.take off ++ s ++ d.drop (off + s.length)
def awriteE (m:Nat) (A:Nat -> Node) (full:Bool) (n off:Int) (s:ByteArray):Int :=
 if afindE A n ≠ 0 then afindE A n else if off < 0 \/ ((A n.toNat).data.length:Int) < off \/ 512 < s.size then 1 else if 2368 < off + s.size then 15 else if full = true then 4 else
 if (aroom m A:Int) < (takesP (max (A n.toNat).data.length (off.toNat + s.size)):Int) - takesP (A n.toNat).data.length then 4 else 0
def awrite (m:Nat) (A:Nat -> Node) (full:Bool) (n off:Int) (s:ByteArray):Nat -> Node :=
 if awriteE m A full n off s = 0 then setA A n.toNat { A n.toNat with data:=splice (A n.toNat).data off.toNat s.data.toList } else A
structure VolL (m:Nat) (H X:Sec) (A:Nat -> Node) (L:LSt):Prop where
 alv:Alv m H X (Go.Proofs.YtngalllaiphkhaaGreatDoor.keys L.stg) L
 vol:IsVol m X A
theorem splice_at {d s:List UInt8} {off p:Nat} (h:off <= d.length):(splice d off s)[p]? = if p < off then d[p]? else if p < off + s.length then s[p - off]? else d[p]?:=by
 unfold splice
 by_cases h1:p < off
 ·rw [if_pos h1,List.append_assoc,List.getElem?_append_left (by rw [List.length_take];omega),List.getElem?_take,if_pos h1]
 ·rw [if_neg h1]
  by_cases h2:p < off + s.length
  ·rw [if_pos h2,List.append_assoc,List.getElem?_append_right (by rw [List.length_take];omega),List.getElem?_append_left (by rw [List.length_take];omega),List.length_take,show p - min off d.length = p - off by omega]
  ·rw [if_neg h2,List.getElem?_append_right (by rw [List.length_append,List.length_take];omega),List.getElem?_drop,List.length_append,List.length_take,show off + s.length + (p - (min off d.length + s.length)) = p by omega]
theorem byte_u8 (s:ByteArray) {i:Nat} (h:i < s.size):s.data.toList[i]? = some (UInt8.ofNat (byteAt s i)):=by
 have hl:i < s.data.toList.length:=by rw [bytes_len];exact h
 rw [byteAt_list,List.getD,List.getElem?_eq_getElem hl]
 show _ = some (UInt8.ofNat (s.data.toList[i]).toNat)
 rw [UInt8.ofNat_toNat]
theorem dataX_at (X:Sec) (x:Ino) {p:Nat} (h:p < x.size):(dataX X x)[p]? = some (UInt8.ofNat (fbyte X x p)):=by
 unfold dataX
 rw [List.getElem?_map,List.getElem?_range h];rfl
section
variable {m:Nat} {H X:Sec} {K:List Nat} {L:LSt} {A:Nat -> Node}
theorem Alv.own_keys (h:Alv m H X K L):Alv m H X (Go.Proofs.YtngalllaiphkhaaGreatDoor.keys L.stg) L:=⟨h.calm,h.dead,h.power,h.vok,h.eq,fun x hx=>List.mem_map.2 ⟨x,hx,rfl⟩⟩
theorem VolL.find (h:VolL m H X A L) (n:Int):vfindE L n = afindE A n /\ (afindE A n = 0 -> ∃ k:Nat,n = k /\ k < 32 /\ vfindX L n = xinode X k /\ (xinode X k).kind ≠ 0):=by
 have h0:=h.alv.get0.1
 by_cases hn:n < 0 \/ 32 <= n
 ·have e:afindE A n = 1:=by unfold afindE;rw [if_pos hn]
  exact ⟨by rw [(find_arg h0 hn).1,e],fun e'=>by rw [e] at e';cases e'⟩
 ·obtain ⟨k,rfl⟩:∃ k:Nat,n = k:=⟨n.toNat,by omega⟩
  have hk:k < 32:=by omega
  have hi:=h.alv.inode hk
  have hkd:=h.vol.kind hk
  by_cases hz:(xinode X k).kind = 0
  ·have e:afindE A k = 5:=by unfold afindE;rw [if_neg hn,Int.toNat_natCast,if_pos (by rw [hkd];exact hz)]
   exact ⟨by rw [(find_none h0 hk (by rw [hi];exact hz)).1,e],fun e'=>by rw [e] at e';cases e'⟩
  ·have e:afindE A k = 0:=by unfold afindE;rw [if_neg hn,Int.toNat_natCast,if_neg (by rw [hkd];exact hz)]
   obtain ⟨e1,e2⟩:=find_ok h0 hk (by rw [hi];exact hz)
   exact ⟨by rw [e1,e],fun _=>⟨k,rfl,hk,by rw [e2,hi],hz⟩⟩
theorem IsVol.aroom (h:IsVol m X A):aroom m A = xroom m X:=by have:=h.room;unfold Go.Proofs.YtngalllaiphkhaaGreatDoor.aroom;omega
theorem VolL.fullE (h:VolL m H X A L):vfullB L = decide (16 < (Go.Proofs.YtngalllaiphkhaaGreatDoor.keys L.stg).length):=by rw [h.alv.full];unfold Go.Proofs.YtngalllaiphkhaaGreatDoor.keys;rw [List.length_map]
theorem InoGood.a5_iff (h:IsVol m X A) {n:Nat} (hn:n < 32):(xinode X n).a5 = 0 ↔ sectorsP (xinode X n).size <= 5:=by
 constructor
 ·intro h0
  rcases Nat.lt_or_ge 5 (sectorsP (xinode X n).size) with h5 | h5
  ·exact absurd h0 ((h.ok hn).p5 5 (base_P X h5) (Nat.le_refl _))
  ·exact h5
 ·exact (h.good n hn).a5
structure StA0 (m:Nat) (H X:Sec) (K:List Nat) (n c0 c1:Nat) (x:Ino) (L1:LSt) (x1:Ino) (X1:Sec) (K1:List Nat) (d:Nat):Prop where
 alv:Alv m H X1 K1 L1
 inv:XInv m X1 (setV (base X) n ⟨x1,fun k=>decide (k < c0)⟩)
 kin:∀ i ∈ K,i ∈ K1
 klen:K1.length <= K.length + 1
 a5:5 < c1 -> x1.a5 ≠ 0
 a5K:x1.a5 ≠ 0 -> x1.a5 ∈ K1
 a5old:x1.a5 = x.a5 \/ (∀ n',n' < 32 -> ¬ ownF X (base X n') x1.a5)
 at_:∀ k,k < c0 -> xat X1 x1 k = xat X x k
 frame:∀ t,t ≠ 0 -> t ≠ x1.a5 -> X1 t = X t
 frame5:x1.a5 = x.a5 -> ∀ t,t ≠ 0 -> X1 t = X t
 room:xroom m X1 + d = xroom m X
 dval:d = if 5 < c1 /\ x.a5 = 0 then 1 else 0
 kind:x1.kind = x.kind
 links:x1.links = x.links
 a5same:d = 0 -> x1.a5 = x.a5
 fits:x.Fits -> x1.Fits
theorem stepA (h:Alv m H X K L) (hv:IsVol m X A) {n sz:Nat} (hn:n < 32) (h0:0 ∈ K) (hK:K.length <= 28) (ha:(xinode X n).a5 ≠ 0 -> (xinode X n).a5 ∈ K) (hr:5 < sectorsP sz /\ (xinode X n).a5 = 0 -> 0 < xroom m X) :
 ∃ X1 K1 d,StA0 m H X K n (sectorsP (xinode X n).size) (sectorsP sz) (xinode X n) (vindirect L (xinode X n) sz).1 (vindirect L (xinode X n) sz).2 X1 K1 d:=by
 by_cases hw:5 < sectorsP sz /\ (xinode X n).a5 = 0
 ·have ht:=takeN_pos (hr hw) hv.inv.nine
  have hI:=hv.inv.indir hn (show (base X n).x.a5 = 0 from hw.2) ht
  have hvi:vindirect L (xinode X n) sz = ((vtake L).set (vtakeN L:Nat) nought,(xinode X n).put 5 (xtakeN m X)):=by
   unfold vindirect;rw [if_pos hw,h.takeN]
  rw [hvi]
  have hA:=(h.more (K':=xtakeN m X :: K) fun i hi=>List.mem_cons_of_mem _ hi).newN ht (List.mem_cons_of_mem _ h0) (List.mem_cons_self ..) (by simp only [List.length_cons];omega)
  refine ⟨xnew m X,xtakeN m X :: K,1,?_⟩
  exact {
   alv:=hA,inv:=hI.inv,kin:=fun i hi=>List.mem_cons_of_mem _ hi,klen:=by simp only [List.length_cons];omega
   a5:=fun _=>ht,a5K:=fun _=>List.mem_cons_self ..,a5old:=.inr hI.new
   at_:=fun k hk=>hI.at_ k (by
    have:=(InoGood.a5_iff hv hn).1 hw.2
    omega)
   frame:=fun t h1 h2=>hI.frame t h1 h2
   frame5:=fun e=>absurd (show xtakeN m X = (xinode X n).a5 from e) (by rw [hw.2];exact ht)
   room:=hI.room,dval:=by rw [if_pos hw],kind:=(put_size _ 5 _).2.1,links:=(put_size _ 5 _).2.2,a5same:=fun e=>absurd e (by decide),fits:=fun hf=>put_fits hf 5 (xtakeN m X) (by have:=hI.ge;have:=hv.inv.m512;omega) }
 ·have hvi:vindirect L (xinode X n) sz = (L,xinode X n):=by unfold vindirect;rw [if_neg hw]
  rw [hvi]
  refine ⟨X,K,0,?_⟩
  exact {
   alv:=h
   inv:=hv.inv.of_eq fun n' _=>(by
    by_cases hne:n' = n
    ·rw [hne,setV_same];rfl
    ·rw [setV_ne _ _ hne])
   kin:=fun _ hi=>hi,klen:=by omega,a5:=fun h5 e=>hw ⟨h5,e⟩,a5K:=ha,a5old:=.inl rfl,at_:=fun _ _=>rfl,frame:=fun _ _ _=>rfl,frame5:=fun _ _ _=>rfl,room:=rfl
   dval:=by rw [if_neg hw],kind:=rfl,links:=rfl,a5same:=fun _=>rfl,fits:=fun hf=>hf }
end
theorem vsetX_kl (x:Ino) (k y:Nat):(vsetX x k y).kind = x.kind /\ (vsetX x k y).links = x.links:=by
 unfold vsetX
 split
 ·exact (put_size x k y).2
 ·exact ⟨rfl,rfl⟩
theorem growF_kl (p:LSt × Ino) (k0 j:Nat):(growF p k0 j).2.kind = p.2.kind /\ (growF p k0 j).2.links = p.2.links:=by
 induction j with
 | zero=>exact ⟨rfl,rfl⟩
 | succ j ih =>
  rw [growF_succ]
  unfold vgrow
  exact ⟨(vsetX_kl _ _ _).1.trans ih.1,(vsetX_kl _ _ _).2.trans ih.2⟩
theorem xinode_fits (X:Sec) (n:Nat):(xinode X n).Fits:=decodeP_fits _
section
variable {m:Nat} {H X:Sec} {K:List Nat} {L:LSt} {A:Nat -> Node}
theorem write_goes (hL:VolL m H X A L) {n o:Nat} {s:ByteArray} (hn:n < 32) (hkd:(xinode X n).kind ≠ 0) (ho:o <= (xinode X n).size) (hs:s.size <= 512) (h2368:o + s.size <= 2368) (hfull:(Go.Proofs.YtngalllaiphkhaaGreatDoor.keys L.stg).length <= 16)
 (hroom:takesP (max (xinode X n).size (o + s.size)) <= takesP (xinode X n).size + xroom m X) :
 ∃ X',VolL m H X' (setA A n { A n with data:=splice (A n).data o s.data.toList })
  (vkeep (vput (vgrown L (xinode X n) (max (xinode X n).size (o + s.size))).2 s.size (vgrown L (xinode X n) (max (xinode X n).size (o + s.size))).1 o s) n (vgrown L (xinode X n) (max (xinode X n).size (o + s.size))).2):=by
 have hv:=hL.vol
 have hgood:=hv.good n hn
 obtain ⟨x,hx⟩:∃ x,x = xinode X n:=⟨_,rfl⟩
 rw [<- hx] at hkd ho hroom hgood ⊢
 obtain ⟨sz,hsz⟩:∃ sz,sz = max x.size (o + s.size):=⟨_,rfl⟩
 rw [<- hsz] at hroom ⊢
 obtain ⟨c0,hc0⟩:∃ c,c = sectorsP x.size:=⟨_,rfl⟩
 obtain ⟨c1,hc1⟩:∃ c,c = sectorsP sz:=⟨_,rfl⟩
 have hszle:sz <= 2368:=by have:=hgood.size;omega
 have hc01:c0 <= c1:=by rw [hc0,hc1];unfold sectorsP;omega
 have hc37:c1 <= 37:=by rw [hc1];exact sectors_le _ hszle
 have ha5:x.a5 = 0 ↔ c0 <= 5:=by rw [hx,hc0,hx];exact InoGood.a5_iff hv hn
 -- the sectors that are written and were there
 obtain ⟨E,hE⟩:∃ E,E = (List.range (c0 - o / 64)).map fun i=>xat X x (o / 64 + i):=⟨_,rfl⟩
 have hEm:∀ k,o / 64 <= k -> k < c0 -> xat X x k ∈ E:=fun k h1 h2=>by
  rw [hE]
  exact List.mem_map.2 ⟨k - o / 64,List.mem_range.2 (by omega),by rw [show o / 64 + (k - o / 64) = k by omega]⟩
 obtain ⟨E',hE'⟩:∃ E',E' = E.take 9:=⟨_,rfl⟩
 have hE'm:∀ k,o / 64 <= k -> k < c0 -> 64 * k < o + s.size -> xat X x k ∈ E':=fun k h1 h2 h3=>by
  have:(E.take 9)[k - o / 64]? = some (xat X x k):=by
   rw [List.getElem?_take,if_pos (by omega),hE,List.getElem?_map,List.getElem?_range (by omega)]
   show some (xat X x (o / 64 + (k - o / 64))) = _
   rw [show o / 64 + (k - o / 64) = k by omega]
  rw [hE']
  exact List.mem_of_getElem? this
 have hEl:E'.length + (c1 - c0) <= 9:=by
  have h1:E.length = c0 - o / 64:=by rw [hE];simp
  rw [hE',List.length_take,h1]
  have:c0 = sectorsP x.size:=hc0
  have h3:c1 = sectorsP sz:=hc1
  unfold sectorsP at this h3
  omega
 obtain ⟨K0,hK0⟩:∃ K0,K0 = 0 :: (1 + n / 4) :: x.a5 :: (E' ++ Go.Proofs.YtngalllaiphkhaaGreatDoor.keys L.stg):=⟨_,rfl⟩
 have hK0l:K0.length + (c1 - c0) <= 28:=by rw [hK0];simp only [List.length_cons,List.length_append];omega
 have hA0:Alv m H X K0 L:=hL.alv.more fun i hi=>by rw [hK0];simp [hi]
 have hin0:0 ∈ K0:=by rw [hK0];simp
 have hinn:1 + n / 4 ∈ K0:=by rw [hK0];simp
 have hin5:x.a5 ∈ K0:=by rw [hK0];simp
 have hinE:∀ i ∈ E',i ∈ K0:=fun i hi=>by rw [hK0];simp [hi]
 have htk:takesP sz = c1 + (if 5 < c1 then 1 else 0):=by rw [hc1];unfold takesP;split <;> omega
 have htk0:takesP x.size = c0 + (if 5 < c0 then 1 else 0):=by rw [hc0];unfold takesP;split <;> omega
 obtain ⟨X1,K1,d,SA⟩:=stepA hA0 hv (n:=n) (sz:=sz) hn hin0 (by omega) (by rw [<- hx];exact fun _=>hin5) (by
  rw [<- hx,<- hc1]
  intro hw
  rw [htk,htk0,if_pos hw.1,if_neg (by have:=ha5.1 hw.2;omega)] at hroom
  omega)
 rw [<- hx,<- hc0,<- hc1] at SA
 have hvg:=vgrown_eq L x sz
 rw [<- hc0,<- hc1] at hvg
 generalize hp:vindirect L x sz = p at SA hvg
 obtain ⟨L1,x1⟩:=p
 have SA:StA0 m H X K0 n c0 c1 x L1 x1 X1 K1 d:=SA
 have hdv:c1 + (if 5 < c1 then 1 else 0) = c0 + (if 5 < c0 then 1 else 0) + (c1 - c0) + d:=by
  rw [SA.dval]
  by_cases h5:5 < c1
  ·by_cases h50:x.a5 = 0
   ·rw [if_pos h5,if_neg (by have:=ha5.1 h50;omega),if_pos ⟨h5,h50⟩];omega
   ·rw [if_pos h5,if_pos (by rcases Nat.lt_or_ge 5 c0 with h | h;exact h;exact absurd (ha5.2 h) h50),if_neg (fun h=>h50 h.2)];omega
  ·rw [if_neg h5,if_neg (by omega),if_neg (fun h=>h5 h.1)];omega
 obtain ⟨Y,K2,G⟩:=grow_all SA.alv SA.inv hn (setV_same _ _ _) (SA.kin 0 hin0) SA.a5K (c1 - c0) (by have:=SA.room;rw [htk,htk0] at hroom;omega) (by omega) (fun h5=>SA.a5 (by omega)) (by have:=SA.klen;omega)
 have ga:=G.alv
 have gi:=G.inv
 have gknew:=G.knew
 have gold:=G.old
 have gframe:=G.frame
 have gnob:=G.nobody
 have gA5:=G.a5
 have gkl:=growF_kl (L1,x1) c0 (c1 - c0)
 have gfit:=(growF_keeps (p:=(L1,x1)) SA.alv.vok (SA.fits (by rw [hx];exact xinode_fits X n)) c0 (c1 - c0)).2.2
 generalize growF (L1,x1) c0 (c1 - c0) = q at ga gi gknew gold gframe gnob gA5 gkl gfit hvg
 obtain ⟨Lg,xg⟩:=q
 have ga:Alv m H Y K2 Lg:=ga
 obtain ⟨z,hz⟩:∃ z:Ino,z = { xg with size:=sz }:=⟨_,rfl⟩
 have hvg:vgrown L x sz = (Lg,z):=by rw [hvg,hz]
 rw [hvg]
 have hzat:∀ W k,xat W z k = xat W xg k:=fun W k=>by rw [hz];rfl
 have hz5:z.a5 = x1.a5:=by rw [hz];exact gA5
 have hzs:z.size = sz:=by rw [hz]
 have gold:∀ k,k < c0 -> xat Y z k = xat X x k:=fun k hk=>by rw [hzat];exact (gold k hk).trans (SA.at_ k hk)
 have gknew:∀ k,c0 <= k -> k < c1 -> xat Y z k ∈ K2:=fun k h1 h2=>by
  have:=gknew (k - c0) (by omega)
  rw [show c0 + (k - c0) = k by omega] at this
  rw [hzat];exact this
 have gnob:∀ k,c0 <= k -> k < c1 -> ∀ n',n' < 32 -> ¬ ownF X1 (setV (base X) n ⟨x1,fun k=>decide (k < c0)⟩ n') (xat Y z k):=fun k h1 h2=>by
  have:=gnob (k - c0) (by omega)
  rw [show c0 + (k - c0) = k by omega] at this
  rw [hzat];exact this
 have gframe:∀ t,t ≠ 0 -> ¬ (x1.a5 ≠ 0 /\ t = x1.a5) -> (∀ k,c0 <= k -> k < c1 -> t ≠ xat Y z k) -> Y t = X1 t:=fun t h1 h2 h3=>gframe t h1 h2 fun i hi=>by
  have:=h3 (c0 + i) (by omega) (by omega)
  rw [hzat] at this;exact this
 have gz:XInv m Y (setV (base X) n ⟨z,fun k=>decide (k < c1)⟩):=by
  have h1:=gi.renum (n:=n) (y:=z) (by rw [setV_same,hz];rfl)
  refine h1.of_eq fun n' _=>?_
  by_cases hne:n' = n
  ·rw [hne,setV_same,setV_same,setV_same,show c0 + (c1 - c0) = c1 by omega]
  ·rw [setV_ne _ _ hne,setV_ne _ _ hne,setV_ne _ _ hne,setV_ne _ _ hne]
 have hfz:=gz.each n hn
 rw [setV_same] at hfz
 have hK2l:K2.length <= 29:=by have:=G.klen;have:=SA.klen;omega
 obtain ⟨Z,P⟩:=put_all hn (setV_same (base X) n ⟨z,fun k=>decide (k < c1)⟩) hK2l s.size Lg Y o s ga gz (Nat.le_refl _) (by rw [hc1];unfold sectorsP;omega) (fun k h1 h2=>by
  rcases Nat.lt_or_ge k c0 with hlt | hge
  ·rw [gold k hlt]
   exact G.kin _ (SA.kin _ (hinE _ (hE'm k h1 hlt h2)))
  ·exact gknew k hge (by rw [hc1];unfold sectorsP;omega))
 -- what is not the file's stays
 have hXne:∀ t,t ≠ 0 -> ¬ ownF Y ⟨z,fun k=>decide (k < c1)⟩ t -> Z t = X t:=fun t h0 hno=>by
  have h5:t ≠ x1.a5:=fun e=>hno (.inl ⟨by show z.a5 ≠ 0;rw [hz5,<- e];exact h0,by show t = z.a5;rw [hz5];exact e⟩)
  have hk:∀ k,k < c1 -> t ≠ xat Y z k:=fun k hk e=>hno (.inr ⟨k,decide_eq_true hk,e⟩)
  rw [P.frame t hk,gframe t h0 (fun e=>h5 e.2) (fun k _ h2=>hk k h2),SA.frame t h0 h5]
 have hother:∀ n',n' < 32 -> n' ≠ n -> ∀ j,ownF X (base X n') j -> ¬ ownF Y ⟨z,fun k=>decide (k < c1)⟩ j:=by
  intro n' hn' hne j hj
  have hap:∀ i,ownF X (base X n) i -> ¬ ownF X (base X n') i:=fun i=>hv.inv.apart n n' hn hn' (Ne.symm hne) i
  have hx5no:¬ ((base X n').x.a5 ≠ 0 /\ (base X n').x.a5 = x1.a5):=fun ⟨h1,h2⟩=>by
   rcases SA.a5old with e | e
   ·exact hap x1.a5 (.inl ⟨by show (xinode X n).a5 ≠ 0;rw [<- hx,<- e,<- h2];exact h1,by show x1.a5 = (xinode X n).a5;rw [e,hx]⟩) (by rw [<- h2];exact own_a5 h1)
   ·exact e n' hn' (by rw [<- h2];exact own_a5 h1)
  rintro (⟨h1,h2⟩ | ⟨k,hk,rfl⟩)
  ·have h1:z.a5 ≠ 0:=h1
   have h2:j = z.a5:=h2
   rw [hz5] at h1 h2
   rcases SA.a5old with e | e
   ·exact hap j (.inl ⟨by show (xinode X n).a5 ≠ 0;rw [<- hx,<- e];exact h1,by show j = (xinode X n).a5;rw [h2,e,hx]⟩) hj
   ·exact e n' hn' (by rw [<- h2];exact hj)
  ·have hk:k < c1:=of_decide_eq_true hk
   have hj:ownF X (base X n') (xat Y z k):=hj
   rcases Nat.lt_or_ge k c0 with hlt | hge
   ·rw [gold k hlt] at hj
    refine hap _ (.inr ⟨k,base_P X (by rw [<- hx,<- hc0];exact hlt),?_⟩) hj
    rw [hx];rfl
   ·refine gnob k hge hk n' hn' ?_
    rw [setV_ne _ _ hne]
    refine (own_congr (hv.ok hn') (fun h0=>SA.frame _ h0 (fun e=>hx5no ⟨h0,e⟩)) _).2 hj
 have hkeep:=P.alv.keep hn (G.kin _ (SA.kin _ hinn)) hK2l z
 refine ⟨xkeep Z n z,hkeep.own_keys,?_⟩
 have hlen:(A n).data.length = x.size:=by rw [hv.len hn,hx]
 have hd0:0 < xroom m X \/ True:=.inr trivial
 refine hv.turn hn (Z:=Z) (y:=z) ?_ ?_ ?_ ?_ ?_ ?_ ?_
 ·have hk:z.kind = x.kind:=by rw [hz];exact gkl.1.trans SA.kind
  have hl:z.links = x.links:=by rw [hz];exact gkl.2.trans SA.links
  exact ⟨by rw [hk];exact hgood.kind,by rw [hl];exact hgood.links,by rw [hzs];exact hszle,fun e=>absurd (by rw [<- hk];exact e) hkd,fun h5=>by
   rw [hzs,<- hc1] at h5
   have hd:d = 0:=by rw [SA.dval,if_neg (fun h=>by omega)]
   rw [hz5,SA.a5same hd]
   exact ha5.2 (by omega)⟩
 ·have hk:z.kind = x.kind:=by rw [hz];exact gkl.1.trans SA.kind
  have hl:z.links = x.links:=by rw [hz];exact gkl.2.trans SA.links
  exact ⟨by rw [hz];exact resize_fits gfit _ (by omega),by rw [hk];have:=hgood.kind;omega,by rw [hl];exact hgood.links⟩
 ·rw [hzs,<- hc1];exact P.inv
 ·intro j h1 h9
  exact hXne j (by omega) fun ho=>by have:=hfz.inb j ho;omega
 ·intro n' hn' hne j hj
  have:=(hv.ok hn').inb j hj
  exact hXne j (by omega) (hother n' hn' hne j hj)
 ·have hnode:=hv.node n hn
  rw [<- hx] at hnode
  have hk:z.kind = x.kind:=by rw [hz];exact gkl.1.trans SA.kind
  have hl:z.links = x.links:=by rw [hz];exact gkl.2.trans SA.links
  have hdat:splice (A n).data o s.data.toList = dataX Z z:=by
   apply List.ext_getElem?
   intro p
   rw [splice_at (by rw [hlen];exact ho),bytes_len]
   by_cases hp:p < sz
   ·rw [dataX_at Z z (by rw [hzs];exact hp),P.bytes p (by rw [hc1];unfold sectorsP;omega)]
    have hold:p < x.size -> (A n).data[p]? = some (UInt8.ofNat (fbyte Y z p)):=fun hpx=>by
     rw [hnode]
     show (dataX X x)[p]? = _
     rw [dataX_at X x hpx]
     have hkc:p / 64 < c0:=by rw [hc0];exact div64_lt hpx
     have hox:ownF X (base X n) (xat X x (p / 64)):=.inr ⟨p / 64,base_P X (by rw [<- hx,<- hc0];exact hkc),by rw [hx];rfl⟩
     have hib:=(hv.ok hn).inb _ hox
     have hne5:xat X x (p / 64) ≠ x1.a5:=fun e=>by
      rcases SA.a5old with e' | e'
      ·refine (hv.ok hn).ind (p / 64) (base_P X (by rw [<- hx,<- hc0];exact hkc)) ?_ ?_
       ·show (xinode X n).a5 ≠ 0
        rw [<- hx,<- e',<- e];omega
       ·show xat X (xinode X n) (p / 64) = (xinode X n).a5
        rw [<- hx,e,e']
      ·exact e' n hn (by rw [<- e];exact hox)
     unfold fbyte
     rw [gold _ hkc,gframe _ (by omega) (fun e=>hne5 e.2) (fun k h1 h2 e=>by
      rw [<- gold _ hkc] at e
      have:=hfz.inj (p / 64) k (decide_eq_true (by omega)) (decide_eq_true h2) e
      omega),SA.frame _ (by omega) hne5]
    by_cases h1:p < o
    ·rw [if_pos h1,if_neg (by omega)]
     exact hold (by omega)
    ·rw [if_neg h1]
     by_cases h2:p < o + s.size
     ·rw [if_pos h2,if_pos (by omega),byte_u8 s (by omega)]
     ·rw [if_neg h2,if_neg (by omega)]
      exact hold (by omega)
   ·rw [if_neg (by omega),if_neg (by omega),List.getElem?_eq_none (by rw [hlen];omega),List.getElem?_eq_none (by rw [dataX_length,hzs];omega)]
  rw [hdat]
  unfold nodeX
  rw [hk,hl,hnode]
  rfl
 ·rw [hzs,hlen]
  have hZ0:xroom m Z = xroom m Y:=xroom_zero (P.frame 0 fun k hk e=>by
   have:=hfz.inb _ (.inr ⟨k,decide_eq_true hk,rfl⟩)
   have e:0 = xat Y z k:=e
   have this:9 <= xat Y z k /\ _:=this
   omega)
  have h1:=G.room
  have h2:=SA.room
  rw [hZ0,htk,htk0]
  omega
end
def cutQ (c0 left j k:Nat):Bool:=decide (k < c0) && !(decide (left <= k) && decide (k < j))
theorem cutQ_iff (c0 left j k:Nat):cutQ c0 left j k = true ↔ k < c0 /\ ¬ (left <= k /\ k < j):=by unfold cutQ;simp;omega
structure Cutd (m:Nat) (H X:Sec) (K:List Nat) (L:LSt) (n c0 left:Nat) (x:Ino) (j:Nat) (Y:Sec):Prop where
 alv:Alv m H Y K (cutF left L x j).1
 inv:XInv m Y (setV (base X) n ⟨(cutF left L x j).2,cutQ c0 left j⟩)
 at_:∀ k,cutQ c0 left j k = true -> xat Y (cutF left L x j).2 k = xat X x k
 frame:∀ t,t ≠ 0 -> ¬ (x.a5 ≠ 0 /\ t = x.a5) -> Y t = X t
 a5:(cutF left L x j).2.a5 = x.a5
 room:xroom m Y = xroom m X + (j - left)
 kl:(cutF left L x j).2.kind = x.kind /\ (cutF left L x j).2.links = x.links
section
variable {m:Nat} {H X:Sec} {K:List Nat} {L:LSt} {A:Nat -> Node}
theorem cut_all (h:Alv m H X K L) (hv:IsVol m X A) {n:Nat} (hn:n < 32) (h0:0 ∈ K) (hK:K.length <= 29) (ha:(xinode X n).a5 ≠ 0 -> (xinode X n).a5 ∈ K) (left:Nat) :
 ∀ j,j <= sectorsP (xinode X n).size -> ∃ Y,Cutd m H X K L n (sectorsP (xinode X n).size) left (xinode X n) j Y
 | 0,_=>⟨X,{
  alv:=h
  inv:=hv.inv.of_eq fun n' _=>(by
   by_cases hne:n' = n
   ·rw [hne,setV_same]
    show _ = base X n
    unfold base
    congr 1
    funext k
    unfold cutQ
    simp
   ·rw [setV_ne _ _ hne])
  at_:=fun _ _=>rfl,frame:=fun _ _ _=>rfl,a5:=rfl,room:=by omega,kl:=⟨rfl,rfl⟩ }⟩
 | j + 1,hj=>by
  obtain ⟨Y,G⟩:=cut_all h hv hn h0 hK ha left j (by omega)
  have ga:=G.alv
  have gi:=G.inv
  have gat:=G.at_
  have g5:=G.a5
  have gkl:=G.kl
  have gs:=cutF_succ left L (xinode X n) j
  generalize cutF left L (xinode X n) j = p at ga gi gat g5 gkl gs
  obtain ⟨Lj,xj⟩:=p
  have ga:Alv m H Y K Lj:=ga
  have g5:xj.a5 = (xinode X n).a5:=g5
  have gat:∀ k,cutQ (sectorsP (xinode X n).size) left j k = true -> xat Y xj k = xat X (xinode X n) k:=gat
  unfold vcutStep at gs
  by_cases hl:left <= j
  ·rw [if_pos hl] at gs
   have hsame:setV (base X) n ⟨xj,cutQ (sectorsP (xinode X n).size) left j⟩ n = ⟨xj,cutQ (sectorsP (xinode X n).size) left j⟩:=setV_same _ _ _
   have hf:=gi.each n hn
   rw [hsame] at hf
   have hPj:cutQ (sectorsP (xinode X n).size) left j j = true:=(cutQ_iff _ _ _ _).2 ⟨by omega,by omega⟩
   have C:=gi.cut1 hn (c:=j) (by rw [hsame];exact hPj)
   rw [hsame] at C
   have hown:ownF Y ⟨xj,cutQ (sectorsP (xinode X n).size) left j⟩ (xat Y xj j):=.inr ⟨j,hPj,rfl⟩
   have hb:=hf.inb _ hown
   have h37:=hf.p37 j hPj
   have h5:j < 5 \/ xj.a5 ≠ 0:=by
    rcases Nat.lt_or_ge j 5 with h' | h'
    ·exact .inl h'
    ·exact .inr (hf.p5 j hPj h')
   have h5m:j < 5 \/ (xj.a5 < m /\ xj.a5 ∈ K):=h5.imp id fun h'=>⟨(hf.inb _ (.inl ⟨h',rfl⟩)).2,by rw [g5] at h' ⊢;exact ha h'⟩
   have hvat:vat Lj xj j = xat Y xj j:=ga.at_ xj (h5m.imp id And.left)
   have hM:=ga.mark (i:=xat Y xj j) (by have:=ga.m16;omega) h0 hK false
   have hS:=hM.setL xj h5m h37 hK 0
   have hgs:cutF left L (xinode X n) (j + 1) = (vsetL (vmark Lj (xat Y xj j) false) xj j 0,vsetX xj j 0):=by rw [gs];show (vsetL (vmark Lj (vat Lj xj j) false) xj j 0,vsetX xj j 0) = _;rw [hvat]
   have hQ:∀ k,cutQ (sectorsP (xinode X n).size) left (j + 1) k = (k != j && cutQ (sectorsP (xinode X n).size) left j k):=fun k=>by
    rw [Bool.eq_iff_iff,cutQ_iff,Bool.and_eq_true,cutQ_iff,bne_iff_ne];omega
   refine ⟨xset (xmark Y (xat Y xj j) false) xj j 0,?_⟩
   have C1:∀ t,t ≠ 0 -> ¬ (xj.a5 ≠ 0 /\ t = xj.a5) -> xset (xmark Y (xat Y xj j) false) xj j 0 t = Y t:=fun t h1 h2=>C.frame t h1 (by rw [hsame];exact h2)
   have C2:∀ k,k < 37 -> k ≠ j -> k < 5 \/ xj.a5 ≠ 0 -> xat (xset (xmark Y (xat Y xj j) false) xj j 0) (vsetX xj j 0) k = xat Y xj k:=fun k h1 h2 h3=>by have:=C.at_ k h1 h2 (by rw [hsame];exact h3);rw [hsame] at this;exact this
   have C3:xroom m (xset (xmark Y (xat Y xj j) false) xj j 0) = xroom m Y + 1:=C.room
   exact {
    alv:=by rw [hgs];exact hS
    inv:=by
     rw [hgs]
     refine C.inv.of_eq fun n' _=>?_
     by_cases hne:n' = n
     ·rw [hne,setV_same,setV_same,setV_same]
      congr 1
      funext k
      exact hQ k
     ·rw [setV_ne _ _ hne,setV_ne _ _ hne,setV_ne _ _ hne]
    at_:=fun k hk=>by
     rw [hgs]
     rw [hQ k,Bool.and_eq_true,bne_iff_ne] at hk
     show xat _ (vsetX xj j 0) k = _
     rw [C2 k (hf.p37 k hk.2) hk.1 (by
      rcases Nat.lt_or_ge k 5 with h' | h'
      ·exact .inl h'
      ·exact .inr (hf.p5 k hk.2 h'))]
     exact gat k hk.2
    frame:=fun t h1 h2=>by rw [C1 t h1 (by rw [g5];exact h2)];exact G.frame t h1 h2
    a5:=by rw [hgs];show (vsetX xj j 0).a5 = _;rw [vsetX_a5];exact g5
    room:=by rw [C3,G.room];omega
    kl:=by rw [hgs];exact ⟨(vsetX_kl _ _ _).1.trans gkl.1,(vsetX_kl _ _ _).2.trans gkl.2⟩ }
  ·rw [if_neg hl] at gs
   have hQ:∀ k,cutQ (sectorsP (xinode X n).size) left (j + 1) k = cutQ (sectorsP (xinode X n).size) left j k:=fun k=>by
    rw [Bool.eq_iff_iff,cutQ_iff,cutQ_iff];omega
   refine ⟨Y,?_⟩
   exact {
    alv:=by rw [gs];exact ga
    inv:=by
     rw [gs]
     refine gi.of_eq fun n' _=>?_
     by_cases hne:n' = n
     ·rw [hne,setV_same,setV_same]
      congr 1
      funext k
      exact hQ k
     ·rw [setV_ne _ _ hne,setV_ne _ _ hne]
    at_:=fun k hk=>by rw [gs];exact gat k (by rw [<- hQ k];exact hk)
    frame:=G.frame
    a5:=by rw [gs];exact g5
    room:=by rw [G.room];omega
    kl:=by rw [gs];exact gkl }
structure CutG (m:Nat) (H X:Sec) (K:List Nat) (M:LSt) (n left:Nat) (x z:Ino) (Z:Sec):Prop where
 alv:Alv m H Z K M
 inv:XInv m Z (setV (base X) n ⟨z,fun k=>decide (k < left)⟩)
 at_:∀ k,k < left -> xat Z z k = xat X x k
 frame:∀ t,t ≠ 0 -> ¬ (x.a5 ≠ 0 /\ t = x.a5) -> Z t = X t
 room:xroom m Z + left + (if 5 < left then 1 else 0) = xroom m X + sectorsP x.size + (if 5 < sectorsP x.size then 1 else 0)
 a5:left <= 5 -> z.a5 = 0
 kl:z.kind = x.kind /\ z.links = x.links
theorem cut_goes (h:Alv m H X K L) (hv:IsVol m X A) {n:Nat} (hn:n < 32) (h0:0 ∈ K) (hK:K.length <= 29) (ha:(xinode X n).a5 ≠ 0 -> (xinode X n).a5 ∈ K) {size:Nat} (hs:size <= (xinode X n).size) :
 CutOk L (xinode X n) (sectorsP size) /\ ∃ Z,CutG m H X K (vcut L (xinode X n) size).1 n (sectorsP size) (xinode X n) (vcut L (xinode X n) size).2 Z:=by
 have hgood:=hv.good n hn
 have hle:sectorsP size <= sectorsP (xinode X n).size:=by unfold sectorsP;omega
 have h37:=sectors_le _ hgood.size
 have hall:=cut_all h hv hn h0 hK ha (sectorsP size)
 have ha5:=InoGood.a5_iff hv hn
 have hm512:=hv.inv.m512
 refine ⟨⟨h37,?_,?_⟩,?_⟩
 ·intro k h1 h2
  obtain ⟨Y,G⟩:=hall k (by omega)
  have hPk:cutQ (sectorsP (xinode X n).size) (sectorsP size) k k = true:=(cutQ_iff _ _ _ _).2 ⟨h2,by omega⟩
  have hf:=G.inv.each n hn
  rw [setV_same] at hf
  have hb:=hf.inb _ (.inr ⟨k,hPk,rfl⟩)
  have hb:9 <= xat Y (cutF (sectorsP size) L (xinode X n) k).2 k /\ xat Y (cutF (sectorsP size) L (xinode X n) k).2 k < m:=hb
  rw [G.alv.at_ _ (by
   rcases Nat.lt_or_ge k 5 with h' | h'
   ·exact .inl h'
   ·exact .inr (hf.inb _ (.inl ⟨hf.p5 k hPk h',rfl⟩)).2)]
  omega
 ·intro h1 _
  obtain ⟨Y,G⟩:=hall _ (Nat.le_refl _)
  rw [G.a5]
  have:=(hv.ok hn).inb _ (.inl ⟨fun e=>by have:=ha5.1 e;omega,rfl⟩)
  have this:9 <= (xinode X n).a5 /\ (xinode X n).a5 < m:=this
  omega
 ·obtain ⟨Y,G⟩:=hall _ (Nat.le_refl _)
  rw [vcut_eq]
  have ga:=G.alv
  have gi:=G.inv
  have gat:=G.at_
  have g5:=G.a5
  have gkl:=G.kl
  generalize cutF (sectorsP size) L (xinode X n) (sectorsP (xinode X n).size) = p at ga gi gat g5 gkl
  obtain ⟨Lj,xj⟩:=p
  have ga:Alv m H Y K Lj:=ga
  have g5:xj.a5 = (xinode X n).a5:=g5
  have hQ:∀ k,cutQ (sectorsP (xinode X n).size) (sectorsP size) (sectorsP (xinode X n).size) k = decide (k < sectorsP size):=fun k=>by
   rw [Bool.eq_iff_iff,cutQ_iff,decide_eq_true_iff];omega
  have gat:∀ k,k < sectorsP size -> xat Y xj k = xat X (xinode X n) k:=fun k hk=>gat k (by rw [hQ k];exact decide_eq_true hk)
  have gi:XInv m Y (setV (base X) n ⟨xj,fun k=>decide (k < sectorsP size)⟩):=by
   refine gi.of_eq fun n' _=>?_
   by_cases hne:n' = n
   ·rw [hne,setV_same,setV_same]
    congr 1
    funext k
    exact (hQ k).symm
   ·rw [setV_ne _ _ hne,setV_ne _ _ hne]
  have groom:=G.room
  by_cases hd:5 < sectorsP (xinode X n).size /\ sectorsP size <= 5
  ·rw [if_pos hd]
   have h50:xj.a5 ≠ 0:=by rw [g5];intro e;have:=ha5.1 e;omega
   have hsame:setV (base X) n ⟨xj,fun k=>decide (k < sectorsP size)⟩ n = ⟨xj,fun k=>decide (k < sectorsP size)⟩:=setV_same _ _ _
   have hf:=gi.each n hn
   rw [hsame] at hf
   have hb:=hf.inb _ (.inl ⟨h50,rfl⟩)
   have hb:9 <= xj.a5 /\ xj.a5 < m:=hb
   have D:=gi.drop5 hn (by rw [hsame];exact h50) (by rw [hsame];intro k hk;have:=of_decide_eq_true hk;omega)
   rw [hsame] at D
   have D1:xroom m (xmark Y xj.a5 false) = xroom m Y + 1:=D.room
   refine ⟨xmark Y xj.a5 false,?_⟩
   exact {
    alv:=ga.mark (by omega) h0 hK false
    inv:=by
     have h1:=D.inv.renum (n:=n) (y:={ xj.put 5 0 with size:=size }) (by simp only [setV_same];rfl)
     refine h1.of_eq fun n' _=>?_
     by_cases hne:n' = n
     ·rw [hne];simp only [setV_same]
     ·simp only [setV_ne _ _ hne]
    at_:=fun k hk=>by
     show xat _ (xj.put 5 0) k = _
     rw [<- gat k hk]
     unfold xat
     rw [if_pos (by omega),if_pos (by omega),get_put _ 5 k _ (by omega) (by omega),if_neg (by omega)]
    frame:=fun t h1 h2=>by rw [D.frame t h1];exact G.frame t h1 h2
    room:=by rw [D1,groom,if_neg (by omega),if_pos hd.1];omega
    a5:=fun _=>rfl
    kl:=⟨(put_size xj 5 0).2.1.trans gkl.1,(put_size xj 5 0).2.2.trans gkl.2⟩ }
  ·rw [if_neg hd]
   refine ⟨Y,?_⟩
   exact {
    alv:=ga
    inv:=by
     have h1:=gi.renum (n:=n) (y:={ xj with size:=size }) (by rw [setV_same];rfl)
     refine h1.of_eq fun n' _=>?_
     by_cases hne:n' = n
     ·rw [hne,setV_same,setV_same,setV_same]
     ·rw [setV_ne _ _ hne,setV_ne _ _ hne,setV_ne _ _ hne]
    at_:=fun k hk=>by show xat Y xj k = _;exact gat k hk
    frame:=G.frame
    room:=by
     rw [groom]
     by_cases h5:5 < sectorsP size
     ·rw [if_pos h5,if_pos (by omega)];omega
     ·rw [if_neg h5,if_neg (by omega)];omega
    a5:=fun h5=>by show xj.a5 = 0;rw [g5];exact ha5.2 (by omega)
    kl:=gkl }
theorem CutG.others {M:LSt} {n left:Nat} {z:Ino} {Z:Sec} (G:CutG m H X K M n left (xinode X n) z Z) (hv:IsVol m X A) (hn:n < 32):(∀ j,1 <= j -> j < 9 -> Z j = X j) /\ ∀ n',n' < 32 -> n' ≠ n -> ∀ j,ownF X (base X n') j -> Z j = X j:=by
 have h5:∀ t,(xinode X n).a5 ≠ 0 /\ t = (xinode X n).a5 -> ownF X (base X n) t:=fun t ht=>.inl ht
 refine ⟨fun j h1 h9=>G.frame j (by omega) fun e=>?_,fun n' hn' hne j hj=>G.frame j ?_ fun e=>?_⟩
 ·have:=(hv.ok hn).inb j (h5 j e);omega
 ·have:=(hv.ok hn').inb j hj;omega
 ·exact hv.inv.apart n n' hn hn' (Ne.symm hne) j (h5 j e) hj
end
def afreeE (A:Nat -> Node) (full:Bool) (n:Int):Int:=if afindE A n ≠ 0 then afindE A n else if full = true then 4 else 0
def afree (A:Nat -> Node) (full:Bool) (n:Int):Nat -> Node:=if afreeE A full n = 0 then setA A n.toNat Node.free else A
def alinkE (A:Nat -> Node) (full:Bool) (n by_:Int):Int :=
 if afindE A n ≠ 0 then afindE A n else if by_ < -255 \/ 255 < by_ \/ (A n.toNat).links + by_ < 0 \/ 255 < (A n.toNat).links + by_ then 15 else if full = true then 4 else 0
def alink (A:Nat -> Node) (full:Bool) (n by_:Int):Nat -> Node :=
 if alinkE A full n by_ = 0 then setA A n.toNat { A n.toNat with links:=((A n.toNat).links + by_).toNat } else A
def afirst (A:Nat -> Node):Option Nat:=(List.range 32).find? fun n=>(A n).kind == 0
def anewE (A:Nat -> Node) (full:Bool) (kind:Int):Int:=if kind ≠ 1 /\ kind ≠ 2 then 1 else if full = true then 4 else if (afirst A).isNone then 4 else 0
def anewN (A:Nat -> Node):Nat:=(afirst A).getD 0
def anew (A:Nat -> Node) (full:Bool) (kind:Int):Nat -> Node:=if anewE A full kind = 0 then setA A (anewN A) ⟨kind.toNat,0,[]⟩ else A
def areadE (A:Nat -> Node) (n off many:Int):Int:=if afindE A n ≠ 0 then afindE A n else if off < 0 \/ many < 0 then 1 else 0
def areadS (A:Nat -> Node) (n off many:Int):List UInt8:=if areadE A n off many ≠ 0 then [] else ((A n.toNat).data.drop off.toNat).take many.toNat
section
variable {m:Nat} {H X:Sec} {K:List Nat} {L:LSt} {A:Nat -> Node}
theorem VolL.same (h:VolL m H X A L) {A':Nat -> Node} (e:A' = A):VolL m H X A' L:=by rw [e];exact h
theorem VolL.write (h:VolL m H X A L) (n off:Int) (s:ByteArray):vwriteE L n off s = awriteE m A (vfullB L) n off s /\ ∃ X',VolL m H X' (awrite m A (vfullB L) n off s) (vwrite L n off s):=by
 obtain ⟨f1,f2⟩:=h.find n
 by_cases hf:afindE A n = 0
 ·obtain ⟨k,rfl,hk,hX,hkd⟩:=f2 hf
  have hv0:vfindE L k = 0:=by rw [f1];exact hf
  have hlen:=h.vol.len hk
  have hxs:(vfindX L k).size = (A k).data.length:=by rw [hX,hlen]
  have hroom:vroom L = aroom m A:=by rw [h.alv.room,h.vol.aroom]
  by_cases q1:off < 0 \/ ((A k).data.length:Int) < off \/ 512 < s.size
  ·obtain ⟨e1,e2⟩:=vwrite_arg hv0 (s:=s) (off:=off) (by rw [hxs];exact q1)
   have a1:awriteE m A (vfullB L) k off s = 1:=by unfold awriteE;rw [if_neg (by simpa using hf),Int.toNat_natCast,if_pos q1]
   refine ⟨by rw [e1,a1],X,?_⟩
   rw [e2]
   exact h.same (by unfold awrite;rw [if_neg (by rw [a1];decide)])
  ·by_cases q2:2368 < off + s.size
   ·obtain ⟨e1,e2⟩:=vwrite_many hv0 (s:=s) (off:=off) (by rw [hxs];exact q1) q2
    have a1:awriteE m A (vfullB L) k off s = 15:=by unfold awriteE;rw [if_neg (by simpa using hf),Int.toNat_natCast,if_neg q1,if_pos q2]
    refine ⟨by rw [e1,a1],X,?_⟩
    rw [e2]
    exact h.same (by unfold awrite;rw [if_neg (by rw [a1];decide)])
   ·cases hfu:vfullB L with
    | true =>
     obtain ⟨e1,e2⟩:=vwrite_full hv0 (s:=s) (off:=off) (by rw [hxs];exact q1) q2 hfu
     have a1:awriteE m A true k off s = 4:=by unfold awriteE;rw [if_neg (by simpa using hf),Int.toNat_natCast,if_neg q1,if_neg q2,if_pos rfl]
     refine ⟨by rw [e1,a1],X,?_⟩
     rw [e2]
     exact h.same (by unfold awrite;rw [if_neg (by rw [a1];decide)])
    | false =>
     by_cases q3:(aroom m A:Int) < (takesP (max (A k).data.length (off.toNat + s.size)):Int) - takesP (A k).data.length
     ·obtain ⟨e1,e2⟩:=vwrite_room hv0 (s:=s) (off:=off) (by rw [hxs];exact q1) q2 hfu (by rw [hxs,hroom];exact q3)
      have a1:awriteE m A false k off s = 4:=by unfold awriteE;rw [if_neg (by simpa using hf),Int.toNat_natCast,if_neg q1,if_neg q2,if_neg (by decide),if_pos q3]
      refine ⟨by rw [e1,a1],X,?_⟩
      rw [e2]
      exact h.same (by unfold awrite;rw [if_neg (by rw [a1];decide)])
     ·obtain ⟨e1,e2⟩:=vwrite_ok hv0 (s:=s) (off:=off) (by rw [hxs];exact q1) q2 hfu (by rw [hxs,hroom];exact q3)
      have a1:awriteE m A false k off s = 0:=by unfold awriteE;rw [if_neg (by simpa using hf),Int.toNat_natCast,if_neg q1,if_neg q2,if_neg (by decide),if_neg q3]
      have hfl:(Go.Proofs.YtngalllaiphkhaaGreatDoor.keys L.stg).length <= 16:=by
       have:=h.fullE
       rw [hfu] at this
       simpa using this
      obtain ⟨X',hX'⟩:=write_goes h (n:=k) (o:=off.toNat) (s:=s) hk hkd (by rw [<- hlen];omega) (by omega) (by omega) hfl (by rw [<- hlen,<- h.vol.aroom];omega)
      refine ⟨by rw [e1,a1],X',?_⟩
      rw [e2,hX,Int.toNat_natCast]
      exact hX'.same (by unfold awrite;rw [if_pos a1,Int.toNat_natCast])
 ·obtain ⟨e1,e2⟩:=vwrite_find (L:=L) (n:=n) (off:=off) (s:=s) (by rw [f1];exact hf)
  have a1:awriteE m A (vfullB L) n off s = afindE A n:=by unfold awriteE;rw [if_pos hf]
  refine ⟨by rw [e1,a1,f1],X,?_⟩
  rw [e2]
  exact h.same (by unfold awrite;rw [if_neg (by rw [a1];exact hf)])
end
end Go.Proofs.YtngalllaiphkhaaGreatDoor
