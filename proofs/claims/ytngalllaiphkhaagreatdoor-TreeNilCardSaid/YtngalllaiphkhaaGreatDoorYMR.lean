import Derived.Test.YtngalllaiphkhaaGreatDoorYMQ
import Derived.Test.YtngalllaiphkhaaGreatDoorYNT
namespace Go.Proofs.YtngalllaiphkhaaGreatDoor
section
variable {m:Nat} {H X:Sec} {K:List Nat} {L:LSt} {A:Nat -> Node}
theorem IsVol.renode (hv : IsVol m X A) {n : Nat} (hn : n < 32) {y : Ino} (hat : y.atL = (xinode X n).atL) (hsz : y.size = (xinode X n).size) (hg : InoGood y) (hy : y.Ok) : IsVol m (xkeep X n y) (setA A n ⟨y.kind, y.links, (A n).data⟩) := by
  refine hv.turn hn hg hy ?_ (fun _ _ _ => rfl) (fun _ _ _ _ _ => rfl) ?_ (by rw [hv.len hn, hsz])
  · have h1 := hv.inv.renum (n := n) (y := y) hat
    refine h1.of_eq fun n' _ => ?_
    by_cases hne : n' = n
    · rw [hne]; simp only [setV_same]; rw [hsz]; rfl
    · simp only [setV_ne _ _ hne]
  · have hg' : ∀ k, xat X y k = xat X (xinode X n) k := fun k => by
      have h1 : y.get k = (xinode X n).get k := by unfold Ino.get; rw [hat]
      have h2 : y.a5 = (xinode X n).a5 := by have : y.get 5 = (xinode X n).get 5 := by unfold Ino.get; rw [hat]
                                             exact this
      unfold xat; rw [h1, h2]
    have hd : dataX X y = dataX X (xinode X n) := by unfold dataX fbyte; rw [hsz]; simp only [hg']
    unfold nodeX
    rw [hd, hv.node n hn]
    rfl
theorem VolL.keepK (h:VolL m H X A L) {n:Nat} (hn:n < 32) (hfu:vfullB L = false) (y:Ino):Alv m H (xkeep X n y) (Go.Proofs.YtngalllaiphkhaaGreatDoor.keys (vkeep L n y).stg) (vkeep L n y):=by
 have hfl:(Go.Proofs.YtngalllaiphkhaaGreatDoor.keys L.stg).length <= 16:=by
  have:=h.fullE
  rw [hfu] at this
  simpa using this
 exact ((h.alv.more (K':=(1 + n / 4) :: Go.Proofs.YtngalllaiphkhaaGreatDoor.keys L.stg) fun i hi=>List.mem_cons_of_mem _ hi).keep hn (List.mem_cons_self ..) (by simp only [List.length_cons];omega) y).own_keys
theorem VolL.link (h:VolL m H X A L) (n by_:Int):vlinkE L n by_ = alinkE A (vfullB L) n by_ /\ ∃ X',VolL m H X' (alink A (vfullB L) n by_) (vlink L n by_):=by
 obtain ⟨f1,f2⟩:=h.find n
 by_cases hf:afindE A n = 0
 ·obtain ⟨k,rfl,hk,hX,hkd⟩:=f2 hf
  have hv0:vfindE L k = 0:=by rw [f1];exact hf
  have hlk:(vfindX L k).links = (A k).links:=by rw [hX,h.vol.links hk]
  by_cases q1:by_ < -255 \/ 255 < by_ \/ ((A k).links:Int) + by_ < 0 \/ 255 < ((A k).links:Int) + by_
  ·obtain ⟨e1,e2⟩:=link_many hv0 (by_:=by_) (by rw [hlk];exact q1)
   have a1:alinkE A (vfullB L) k by_ = 15:=by unfold alinkE;rw [if_neg (by simpa using hf),Int.toNat_natCast,if_pos q1]
   refine ⟨by rw [e1,a1],X,?_⟩
   rw [e2]
   exact h.same (by unfold alink;rw [if_neg (by rw [a1];decide)])
  ·cases hfu:vfullB L with
   | true =>
    obtain ⟨e1,e2⟩:=link_full hv0 (by_:=by_) (by rw [hlk];exact q1) hfu
    have a1:alinkE A true k by_ = 4:=by unfold alinkE;rw [if_neg (by simpa using hf),Int.toNat_natCast,if_neg q1,if_pos rfl]
    refine ⟨by rw [e1,a1],X,?_⟩
    rw [e2]
    exact h.same (by unfold alink;rw [if_neg (by rw [a1];decide)])
   | false =>
    obtain ⟨e1,e2⟩:=link_ok hv0 (by_:=by_) (by rw [hlk];exact q1) hfu
    have a1:alinkE A false k by_ = 0:=by unfold alinkE;rw [if_neg (by simpa using hf),Int.toNat_natCast,if_neg q1,if_neg (by decide)]
    have hgood:=h.vol.good k hk
    have hfit:=xinode_fits X k
    rw [hlk] at e2
    refine ⟨by rw [e1,a1],xkeep X k { xinode X k with links:=((A k).links + by_).toNat },?_⟩
    rw [e2,hX,Int.toNat_natCast]
    refine (VolL.mk (A:=setA A k { A k with links:=((A k).links + by_).toNat }) (h.keepK hk hfu _) ?_).same (by unfold alink;rw [if_pos a1,Int.toNat_natCast])
    have:=h.vol.renode hk (y:={ xinode X k with links:=((A k).links + by_).toNat }) rfl rfl ⟨hgood.kind,by show Int.toNat _ < 256;omega,hgood.size,fun e=>absurd e hkd,hgood.a5⟩
     ⟨⟨hfit.kind,by show Int.toNat _ < 65536;omega,hfit.size,hfit.a0,hfit.a1,hfit.a2,hfit.a3,hfit.a4,hfit.a5⟩,by show (xinode X k).kind < 256;have:=hgood.kind;omega,by show Int.toNat _ < 256;omega⟩
    refine this.of_eq fun n' hn'=>?_
    unfold setA
    split
    ·rw [h.vol.node k hk];rfl
    ·rfl
 ·obtain ⟨e1,e2⟩:=link_find (L:=L) (n:=n) (by_:=by_) (by rw [f1];exact hf)
  have a1:alinkE A (vfullB L) n by_ = afindE A n:=by unfold alinkE;rw [if_pos hf]
  refine ⟨by rw [e1,a1,f1],X,?_⟩
  rw [e2]
  exact h.same (by unfold alink;rw [if_neg (by rw [a1];exact hf)])
theorem find_congr {p q:Nat -> Bool} {l:List Nat} (h:∀ x ∈ l,p x = q x):l.find? p = l.find? q:=by
 induction l with
 | nil=>rfl
 | cons x l ih =>
  rw [List.find?_cons,List.find?_cons,h x (List.mem_cons_self ..),ih fun y hy=>h y (List.mem_cons_of_mem _ hy)]
theorem VolL.first (h:VolL m H X A L):(List.range 32).find? (fun n=>(vinode L n).kind == 0) = afirst A:=by
 unfold afirst
 exact find_congr fun n hn=>by
  have hn:=List.mem_range.1 hn
  rw [h.alv.inode hn,h.vol.kind hn]
theorem afirst_some {k:Nat} (h:afirst A = some k):k < 32 /\ (A k).kind = 0:=by
 unfold afirst at h
 exact ⟨List.mem_range.1 (List.mem_of_find?_eq_some h),by simpa using List.find?_some h⟩
theorem VolL.new (h:VolL m H X A L) (kind:Int):vnewE L kind = anewE A (vfullB L) kind /\ (vnewE L kind = 0 -> vnewN L = anewN A) /\ ∃ X',VolL m H X' (anew A (vfullB L) kind) (vnew L kind):=by
 have h0:=h.alv.get0.1
 have hE:vnewE L kind = anewE A (vfullB L) kind:=by
  unfold vnewE anewE
  rw [if_neg (by simpa using h0),h.first]
 have hN:vnewN L = anewN A:=by unfold vnewN anewN;rw [h.first]
 refine ⟨hE,fun _=>hN,?_⟩
 by_cases hz:anewE A (vfullB L) kind = 0
 ·have hz':=hz
  unfold anewE at hz'
  have hkd:kind = 1 \/ kind = 2:=by
   split at hz'
   ·cases hz'
   ·omega
  rw [if_neg (by omega)] at hz'
  have hfu:vfullB L = false:=by
   cases hf:vfullB L with
   | false=>rfl
   | true=>rw [hf,if_pos rfl] at hz';cases hz'
  rw [if_neg (by rw [hfu];decide)] at hz'
  cases hf:afirst A with
  | none=>rw [hf] at hz';simp at hz'
  | some k =>
   obtain ⟨hk,hk0⟩:=afirst_some hf
   have hNk:anewN A = k:=by unfold anewN;rw [hf];rfl
   have hx:xinode X k = Ino.free:=(h.vol.good k hk).free (by rw [<- h.vol.kind hk];exact hk0)
   have hd:(A k).data = []:=by rw [h.vol.node k hk,hx];rfl
   have e2:vnew L kind = vkeep L k { Ino.free with kind:=kind.toNat }:=by unfold vnew;rw [if_pos (by rw [hE];exact hz),hN,hNk]
   refine ⟨xkeep X k { Ino.free with kind:=kind.toNat },?_⟩
   rw [e2]
   refine (VolL.mk (A:=setA A k ⟨kind.toNat,0,[]⟩) (h.keepK hk hfu _) ?_).same (by unfold anew;rw [if_pos hz,hNk])
   have hk2:kind.toNat = 1 \/ kind.toNat = 2:=by omega
   have hfr:=free_fits
   have:=h.vol.renode hk (y:={ Ino.free with kind:=kind.toNat }) (by rw [hx] <;> rfl) (by rw [hx] <;> rfl)
    ⟨by show kind.toNat <= 2;omega,by show (0:Nat) < 256;decide,by show (0:Nat) <= 2368;decide,fun e=>by have e:kind.toNat = 0:=e;omega,fun _=>rfl⟩
    ⟨⟨by show kind.toNat < 65536;omega,hfr.links,hfr.size,hfr.a0,hfr.a1,hfr.a2,hfr.a3,hfr.a4,hfr.a5⟩,by show kind.toNat < 256;omega,by show (0:Nat) < 256;decide⟩
   refine this.of_eq fun n' hn'=>?_
   unfold setA
   split
   ·rw [hd];rfl
   ·rfl
 ·refine ⟨X,?_⟩
  have e2:vnew L kind = L:=by unfold vnew;rw [if_neg (by rw [hE];exact hz)]
  rw [e2]
  exact h.same (by unfold anew;rw [if_neg hz])
theorem VolL.free (h:VolL m H X A L) (n:Int):vfreeE L n = afreeE A (vfullB L) n /\ (vfreeE L n = 0 -> CutOk L (vfindX L n) (sectorsP 0)) /\ ∃ X',VolL m H X' (afree A (vfullB L) n) (vfree L n):=by
 obtain ⟨f1,f2⟩:=h.find n
 by_cases hf:afindE A n = 0
 ·obtain ⟨k,rfl,hk,hX,hkd⟩:=f2 hf
  have hv0:vfindE L k = 0:=by rw [f1];exact hf
  cases hfu:vfullB L with
  | true =>
   have e1:vfreeE L k = 4:=by unfold vfreeE;rw [if_neg (by simpa using hv0),if_pos hfu]
   have a1:afreeE A true k = 4:=by unfold afreeE;rw [if_neg (by simpa using hf),if_pos rfl]
   refine ⟨by rw [e1,a1],(fun e=>by rw [e1] at e;cases e),X,?_⟩
   have e2:vfree L k = L:=by unfold vfree;rw [if_neg (by rw [e1];decide)]
   rw [e2]
   exact h.same (by unfold afree;rw [if_neg (by rw [a1];decide)])
  | false =>
   have e1:vfreeE L k = 0:=by unfold vfreeE;rw [if_neg (by simpa using hv0),if_neg (by rw [hfu];decide)]
   have a1:afreeE A false k = 0:=by unfold afreeE;rw [if_neg (by simpa using hf),if_neg (by decide)]
   have hfl:(Go.Proofs.YtngalllaiphkhaaGreatDoor.keys L.stg).length <= 16:=by
    have:=h.fullE
    rw [hfu] at this
    simpa using this
   obtain ⟨K0,hK0⟩:∃ K0,K0 = 0 :: (1 + k / 4) :: (xinode X k).a5 :: Go.Proofs.YtngalllaiphkhaaGreatDoor.keys L.stg:=⟨_,rfl⟩
   have hA0:Alv m H X K0 L:=h.alv.more fun i hi=>by rw [hK0];simp [hi]
   obtain ⟨c1,Z,G⟩:=cut_goes hA0 h.vol hk (by rw [hK0];simp) (by rw [hK0];simp only [List.length_cons];omega) (fun _=>by rw [hK0];simp) (Nat.zero_le _)
   obtain ⟨g1,g2⟩:=G.others h.vol hk
   have hkeep:=G.alv.keep hk (by rw [hK0];simp) (by rw [hK0];simp only [List.length_cons];omega) Ino.free
   have e2:vfree L k = vkeep (vcut L (xinode X k) 0).1 k Ino.free:=by unfold vfree;rw [if_pos e1,hX,Int.toNat_natCast]
   refine ⟨by rw [e1,a1],fun _=>by rw [hX];exact c1,xkeep Z k Ino.free,?_⟩
   rw [e2]
   refine (VolL.mk (A:=setA A k Node.free) hkeep.own_keys ?_).same (by unfold afree;rw [if_pos a1,Int.toNat_natCast])
   have hz:=G.inv.each k hk
   rw [setV_same] at hz
   have hz5:=G.a5 (show sectorsP 0 <= 5 by decide)
   have hget:∀ i,i < 5 -> (vcut L (xinode X k) 0).2.get i = 0:=fun i hi=>by
    have hP:decide (i < sectorsP 0) = false:=decide_eq_false (by have:sectorsP 0 = 0:=rfl;omega)
    have:=hz.zero i (by omega) hP (.inl hi)
    unfold xat at this
    rwa [if_pos hi] at this
   have hat:Ino.free.atL = (vcut L (xinode X k) 0).2.atL:=by
    show [0,0,0,0,0,0] = [(vcut L (xinode X k) 0).2.get 0,(vcut L (xinode X k) 0).2.get 1,(vcut L (xinode X k) 0).2.get 2,(vcut L (xinode X k) 0).2.get 3,(vcut L (xinode X k) 0).2.get 4,(vcut L (xinode X k) 0).2.a5]
    rw [hget 0 (by omega),hget 1 (by omega),hget 2 (by omega),hget 3 (by omega),hget 4 (by omega),hz5]
   refine h.vol.turn hk (Z:=Z) (y:=Ino.free) ⟨by decide,by decide,by decide,fun _=>rfl,fun _=>rfl⟩ ⟨free_fits,by decide,by decide⟩ ?_ g1 g2 rfl ?_
   ·have h1:=G.inv.renum (n:=k) (y:=Ino.free) (by rw [setV_same];exact hat)
    refine h1.of_eq fun n' _=>?_
    by_cases hne:n' = k
    ·rw [hne];simp only [setV_same];rfl
    ·simp only [setV_ne _ _ hne]
   ·rw [h.vol.len hk]
    have:=G.room
    have e0:sectorsP 0 = 0:=rfl
    have t0:takesP Ino.free.size = 0:=rfl
    rw [e0] at this
    rw [t0]
    unfold takesP
    split <;> rename_i h2 <;> simp only [h2,if_true,if_false] at this <;> simp at this <;> omega
 ·have e1:vfreeE L n = vfindE L n:=by unfold vfreeE;rw [if_pos (by rw [f1];exact hf)]
  have a1:afreeE A (vfullB L) n = afindE A n:=by unfold afreeE;rw [if_pos hf]
  refine ⟨by rw [e1,a1,f1],fun e=>absurd (by rw [<- f1,<- e1];exact e) hf,X,?_⟩
  have e2:vfree L n = L:=by unfold vfree;rw [if_neg (by rw [e1,f1];exact hf)]
  rw [e2]
  exact h.same (by unfold afree;rw [if_neg (by rw [a1];exact hf)])
end
section
variable {m:Nat} {H X:Sec} {K:List Nat} {L:LSt} {A:Nat -> Node}
theorem rdL_at (h:VolL m H X A L) {n:Nat} (hn:n < 32):∀ c,c <= sectorsP (xinode X n).size -> ∀ p,p < 64 * c -> (rdL L (xinode X n) c)[p]? = some (UInt8.ofNat (fbyte X (xinode X n) p))
 | 0,_,p,hp=>by omega
 | c + 1,hc,p,hp=>by
  have hv:=h.vol.ok hn
  have hown:ownF X (base X n) (xat X (xinode X n) c):=.inr ⟨c,base_P X (by omega),rfl⟩
  have hb:=hv.inb _ hown
  have hat:vat L (xinode X n) c = xat X (xinode X n) c:=h.alv.at_ _ (by
   rcases Nat.lt_or_ge c 5 with h' | h'
   ·exact .inl h'
   ·exact .inr (hv.inb _ (.inl ⟨hv.p5 c (base_P X (by omega)) h',rfl⟩)).2)
  have hl:=rdL_length h.alv.vok (xinode X n) c
  rw [rdL_succ,hat,(h.alv.get hb.2).2]
  by_cases hpc:p < 64 * c
  ·rw [List.getElem?_append_left (by omega)]
   exact rdL_at h hn c (by omega) p hpc
  ·rw [List.getElem?_append_right (by omega),hl,byte_u8 _ (by rw [h.alv.size hb.2];omega)]
   unfold fbyte
   rw [show p / 64 = c by omega,show p % 64 = p - 64 * c by omega]
theorem VolL.bytes (h:VolL m H X A L) {n:Nat} (hn:n < 32):((vbytes L (xinode X n)).extract 0 (xinode X n).size).data.toList = (A n).data:=by
 rw [toList_extract,List.drop_zero]
 unfold vbytes
 rw [rdL_bytes]
 show (rdL L (xinode X n) (sectorsP (xinode X n).size)).take (xinode X n).size = _
 rw [h.vol.node n hn]
 show _ = dataX X (xinode X n)
 apply List.ext_getElem?
 intro p
 rw [List.getElem?_take]
 by_cases hp:p < (xinode X n).size
 ·rw [if_pos hp,dataX_at X _ hp]
  exact rdL_at h hn _ (Nat.le_refl _) p (by unfold sectorsP;omega)
 ·rw [if_neg hp,List.getElem?_eq_none (by rw [dataX_length];omega)]
theorem VolL.read (h:VolL m H X A L) (n off many:Int):vreadE L n off many = areadE A n off many /\ (vreadS L n off many).data.toList = areadS A n off many /\ (vreadE L n off many = 0 -> (vfindX L n).size <= 2368):=by
 obtain ⟨f1,f2⟩:=h.find n
 have hE:vreadE L n off many = areadE A n off many:=by unfold vreadE areadE;rw [f1]
 refine ⟨hE,?_,fun e=>?_⟩
 ·by_cases hf:areadE A n off many = 0
  ·have hf0:afindE A n = 0:=by
    unfold areadE at hf
    split at hf
    ·exact absurd hf (by assumption)
    ·rename_i h';simpa using h'
   obtain ⟨k,rfl,hk,hX,hkd⟩:=f2 hf0
   unfold vreadS areadS
   rw [if_neg (by rw [hE];simpa using hf),if_neg (by simpa using hf),hX,Int.toNat_natCast]
   have hb:=h.bytes hk
   generalize (vbytes L (xinode X k)).extract 0 (xinode X k).size = s at hb
   have hl:s.size = (A k).data.length:=by rw [<- hb,bytes_len]
   show (s.extract (min off.toNat s.size) (min off.toNat s.size + min many.toNat (s.size - min off.toNat s.size))).data.toList = _
   rw [toList_extract,hb,hl]
   apply List.ext_getElem?
   intro p
   rw [List.getElem?_drop,List.getElem?_take,List.getElem?_take,List.getElem?_drop]
   by_cases h1:off.toNat <= (A k).data.length
   ·rw [Nat.min_eq_left h1]
    by_cases h2:p < many.toNat
    ·rw [if_pos h2]
     by_cases h3:off.toNat + p < off.toNat + min many.toNat ((A k).data.length - off.toNat)
     ·rw [if_pos h3]
     ·rw [if_neg h3,List.getElem?_eq_none (by omega)]
    ·rw [if_neg h2,if_neg (by omega)]
   ·rw [Nat.min_eq_right (by omega),if_neg (by omega),List.getElem?_eq_none (by omega)]
    split <;> rfl
  ·unfold vreadS areadS
   rw [if_pos (by rw [hE];exact hf),if_pos hf]
   rfl
 ·rw [hE] at e
  have hf0:afindE A n = 0:=by
   unfold areadE at e
   split at e
   ·exact absurd e (by assumption)
   ·rename_i h';simpa using h'
  obtain ⟨k,rfl,hk,hX,hkd⟩:=f2 hf0
  rw [hX];exact (h.vol.good k hk).size
theorem VolL.stat (h:VolL m H X A L) (n:Int):vfindE L n = afindE A n /\ (afindE A n = 0 -> (vfindX L n).kind = (A n.toNat).kind /\ (vfindX L n).links = (A n.toNat).links /\ (vfindX L n).size = (A n.toNat).data.length) /\ (afindE A n ≠ 0 -> vfindX L n = Ino.free):=by
 obtain ⟨f1,f2⟩:=h.find n
 refine ⟨f1,fun hf=>?_,fun hf=>by unfold vfindX;rw [if_neg (by rw [f1];exact hf)]⟩
 obtain ⟨k,rfl,hk,hX,hkd⟩:=f2 hf
 rw [hX,Int.toNat_natCast,h.vol.kind hk,h.vol.links hk,h.vol.len hk]
 exact ⟨rfl,rfl,rfl⟩
theorem VolL.commit (h:VolL m H X A L) (hp:L.stg = [] \/ L.D.left (2 * L.stg.length + 6)):L.commitE = 0 /\ L.commit.stg = [] /\ L.commit.D.wait.length = 0 /\ (L.D.power = -1 -> L.commit.D.power = -1) /\ (VOk L.commit -> -1 <= L.commit.D.power -> VolL m X X A L.commit):=by
 obtain ⟨k1,k2,k3,k4,k5⟩:=commit_goes h.alv.calm h.alv.dead h.alv.vok.ok hp h.alv.power
 rw [h.alv.eq] at k2
 refine ⟨k1,k3,by rw [k2.wait];rfl,k5,fun hv hp=>⟨⟨k2,k4,hp,hv,by rw [k3];exact over_nil X,fun x hx=>by rw [k3] at hx;cases hx⟩,h.vol⟩⟩
theorem VolL.abort (h:VolL m H X A L) {B:Nat -> Node} (hH:IsVol m H B) (hv:VOk L.abort):VolL m H H B L.abort :=
 ⟨⟨h.alv.calm,h.alv.dead,h.alv.power,hv,over_nil H,fun x hx=>by cases hx⟩,hH⟩
def fmtMap:ByteArray:=(List.range 9).foldl (fun s i=>patched s (i / 8) ⟨#[UInt8.ofNat (markB (byteAt s (i / 8)) (i % 8) true)]⟩) nought
theorem fmtMap_used (i:Nat) (hi:i < 512):usedP fmtMap i = decide (i < 9):=by
 have h:∀ i:Fin 512,usedP fmtMap i.1 = decide (i.1 < 9):=by decide +kernel
 exact h ⟨i,hi⟩
theorem nought_byte (i:Nat):byteAt nought i = 0:=by
 by_cases hi:i < 64
 ·have:∀ i:Fin 64,byteAt nought i.1 = 0:=by decide +kernel
  exact this ⟨i,hi⟩
 ·rw [byteAt_list,List.getD,List.getElem?_eq_none (by rw [bytes_len,nought_size];omega)];rfl
theorem fmt_vol (hm:16 <= m) (hm2:m <= 512) (hs:∀ i,i < m -> (X i).size = 64) (h0:X 0 = fmtMap) (h8:∀ i,1 <= i -> i < 9 -> X i = nought):IsVol m X (fun _=>Node.free):=by
 have hi:∀ n,n < 32 -> xinode X n = Ino.free:=fun n hn=>by
  unfold xinode
  rw [h8 _ (by omega) (by omega),decodeP_extract]
  simp only [nought_byte,two_nought]
  try rfl
 have hb:∀ n,n < 32 -> base X n = ⟨Ino.free,fun _=>false⟩:=fun n hn=>by
  unfold base
  rw [hi n hn]
  congr 1
 have hno:∀ j,¬ ownF X ⟨Ino.free,fun _=>false⟩ j:=fun j hj=>by
  rcases hj with ⟨h1,_⟩ | ⟨k,hk,_⟩
  ·exact h1 rfl
  ·cases hk
 refine ⟨⟨hm,hm2,hs,fun n hn=>?_,fun n n' hn _ _ i ho=>?_,fun i hi'=>?_⟩,fun n hn=>?_,fun n hn=>?_,?_⟩
 ·rw [hb n hn]
  exact ⟨fun k hk=>(by cases hk),fun k hk=>(by cases hk),fun k _ _ h5=>by
   rcases h5 with h5 | h5
   ·unfold xat
    rw [if_pos h5]
    obtain rfl | rfl | rfl | rfl | rfl:k = 0 \/ k = 1 \/ k = 2 \/ k = 3 \/ k = 4:=by omega
    all_goals rfl
   ·exact absurd rfl h5,fun i hi=>absurd hi (hno i),fun k l hk=>(by cases hk),fun k hk=>(by cases hk)⟩
 ·rw [hb n hn] at ho
  exact absurd ho (hno i)
 ·rw [h0,fmtMap_used i hi',decide_eq_true_iff]
  constructor
  ·exact .inl
  ·rintro (h | ⟨n,hn,ho⟩)
   ·exact h
   ·rw [hb n hn] at ho;exact absurd ho (hno i)
 ·rw [hi n hn]
  exact ⟨by decide,by decide,by decide,fun _=>rfl,fun _=>rfl⟩
 ·rw [hi n hn];rfl
 ·have hsum:∀ k,sumT (fun _=>Node.free) k = 0:=by
   intro k
   induction k with
   | zero=>rfl
   | succ k ih=>unfold sumT;rw [ih];rfl
  have hfr:∀ k,k <= 512 -> freeTo (X 0) k = k - 9:=by
   intro k
   induction k with
   | zero=>intro _;rfl
   | succ k ih =>
    intro hk
    rw [freeTo_succ,ih (by omega),h0,fmtMap_used k (by omega)]
    by_cases h9:k < 9
    ·rw [decide_eq_true h9,if_pos rfl];omega
    ·rw [decide_eq_false h9,if_neg (by decide)];omega
  unfold xroom
  rw [hsum,hfr m hm2]
  omega
theorem format_goes (h:Alv m H X [] L):∃ X',VolL m H X' (fun _=>Node.free) (vformat L) /\ (vformat L).stg.length <= 9:=by
 have hm:=h.m16
 have hK9:(List.range 9).length <= 29:=by decide
 have a0:Alv m H X (List.range 9) L:=h.more fun _ hi=>(by cases hi)
 have hA:∀ k,k <= 9 -> ∃ Y,Alv m H Y (List.range 9) (fmtA L k) /\ ∀ i,Y i = if i < k then nought else X i:=by
  intro k
  induction k with
  | zero=>intro _;exact ⟨X,a0,fun i=>by rw [if_neg (by omega)]⟩
  | succ k ih =>
   intro hk
   obtain ⟨Y,hY,hYi⟩:=ih (by omega)
   refine ⟨upd Y k nought,?_,fun i=>?_⟩
   ·rw [fmtA_succ]
    exact (hY.set (i:=k) (by omega) (List.mem_range.2 (by omega)) hK9 nought_size).2
   ·unfold upd
    by_cases hik:i = k
    ·rw [if_pos hik,if_pos (by omega)]
    ·rw [if_neg hik,hYi i]
     by_cases h':i < k
     ·rw [if_pos h',if_pos (by omega)]
     ·rw [if_neg h',if_neg (by omega)]
 obtain ⟨Y,hY,hYi⟩:=hA 9 (Nat.le_refl _)
 have hB:∀ k,k <= 9 -> ∃ Z,Alv m H Z (List.range 9) (fmtB (fmtA L 9) k) /\ (∀ i,i ≠ 0 -> Z i = Y i) /\ Z 0 = (List.range k).foldl (fun s i=>patched s (i / 8) ⟨#[UInt8.ofNat (markB (byteAt s (i / 8)) (i % 8) true)]⟩) nought:=by
  intro k
  induction k with
  | zero=>intro _;exact ⟨Y,hY,fun _ _=>rfl,by rw [hYi 0];rfl⟩
  | succ k ih =>
   intro hk
   obtain ⟨Z,hZ,hZi,hZ0⟩:=ih (by omega)
   refine ⟨xmark Z k true,?_,fun i hi=>?_,?_⟩
   ·rw [fmtB_succ]
    exact hZ.mark (by omega) (List.mem_range.2 (by omega)) hK9 true
   ·rw [xmark_ne _ _ _ hi];exact hZi i hi
   ·rw [List.range_succ,List.foldl_append,<- hZ0]
    show xmark Z k true 0 = patched (Z 0) (k/8) ⟨#[UInt8.ofNat (markB (byteAt (Z 0) (k / 8)) (k % 8) true)]⟩
    unfold xmark xpatch
    exact upd_same Z 0 _
 obtain ⟨Z,hZ,hZi,hZ0⟩:=hB 9 (Nat.le_refl _)
 refine ⟨Z,⟨?_,?_⟩,by rw [vformat_eq];exact Nat.le_trans hZ.len (by decide)⟩
 ·rw [vformat_eq];exact hZ.own_keys
 ·exact fmt_vol hm.1 hm.2 (fun i hi=>hZ.size hi) hZ0 fun i h1 h9=>by rw [hZi i (by omega),hYi i,if_pos h9]
theorem fresh_alv (n:Int) (hv:VOk (freshL n)):Alv (freshN n - 32) (fun _=>nought) (fun _=>nought) [] (freshL n):=by
 obtain ⟨e1,_⟩:=freshL_eq n
 obtain ⟨h1,h2⟩:=freshN_le n
 have hc:=calm_fresh (freshN n - 32)
 rw [show 32 + (freshN n - 32) = freshN n by omega] at hc
 rw [e1] at hv ⊢
 exact ⟨hc,rfl,Int.le_refl _,hv,over_nil _,fun x hx=>by cases hx⟩
end
theorem setL_D (L:LSt) (i:Int) (s:ByteArray):(L.set i s).D = L.D:=by unfold LSt.set;split <;> rfl
theorem put_len1:∀ (l:Stg) (i:Nat) (s:ByteArray),(l.put i s).length <= l.length + 1
 | [],_,_=>Nat.le_refl _
 | x :: l,i,s=>by
  unfold Stg.put
  split
  ·simp
  ·split
   ·simp
   ·have:=put_len1 l i s
    simp only [List.length_cons]
    omega
theorem set_len1 (L:LSt) (i:Int) (s:ByteArray):(L.set i s).stg.length <= L.stg.length + 1:=by
 unfold LSt.set
 split
 ·omega
 ·exact put_len1 _ _ _
section
variable (L:LSt)
theorem vmark_D (i:Nat) (b:Bool):(vmark L i b).D = L.D:=setL_D _ _ _
theorem vkeep_D (n:Nat) (x:Ino):(vkeep L n x).D = L.D:=setL_D _ _ _
theorem vtake_D:(vtake L).D = L.D:=by
 unfold vtake
 split
 ·rfl
 ·exact vmark_D _ _ _
theorem vtake_len:(vtake L).stg.length <= L.stg.length + 1:=by
 unfold vtake
 split
 ·omega
 ·exact set_len1 _ _ _
theorem vsetL_D (x:Ino) (k v:Nat):(vsetL L x k v).D = L.D:=by
 unfold vsetL
 split
 ·rfl
 ·exact setL_D _ _ _
theorem vsetL_len (x:Ino) (k v:Nat):(vsetL L x k v).stg.length <= L.stg.length + 1:=by
 unfold vsetL
 split
 ·omega
 ·exact set_len1 _ _ _
theorem vnew_D (kind:Int):(vnew L kind).D = L.D:=by
 unfold vnew
 split
 ·exact vkeep_D _ _ _
 ·rfl
theorem vnew_len (kind:Int):(vnew L kind).stg.length <= L.stg.length + 1:=by
 unfold vnew
 split
 ·exact set_len1 _ _ _
 ·omega
theorem vlink_D (n b:Int):(vlink L n b).D = L.D:=by
 unfold vlink
 split
 ·exact vkeep_D _ _ _
 ·rfl
theorem vlink_len (n b:Int):(vlink L n b).stg.length <= L.stg.length + 1:=by
 unfold vlink
 split
 ·exact set_len1 _ _ _
 ·omega
theorem vcut_D (x:Ino) (size:Nat):(vcut L x size).1.D = L.D:=by
 have hf:∀ (l:List Nat) (p:LSt × Ino),(l.foldl (vcutStep (sectorsP size)) p).1.D = p.1.D:=by
  intro l
  induction l with
  | nil=>intro p;rfl
  | cons k l ih =>
   intro p
   rw [List.foldl_cons,ih]
   unfold vcutStep
   split
   ·exact (vsetL_D _ _ _ _).trans (vmark_D _ _ _)
   ·rfl
 unfold vcut
 simp only
 split
 ·exact (vmark_D _ _ _).trans (hf _ _)
 ·exact hf _ _
theorem vfree_D (n:Int):(vfree L n).D = L.D:=by
 unfold vfree
 split
 ·exact (vkeep_D _ _ _).trans (vcut_D _ _ _)
 ·rfl
theorem vindirect_D (x:Ino) (size:Nat):(vindirect L x size).1.D = L.D:=by
 unfold vindirect
 split
 ·exact (setL_D _ _ _).trans (vtake_D _)
 ·rfl
theorem vindirect_len (x:Ino) (size:Nat):(vindirect L x size).1.stg.length <= L.stg.length + 2:=by
 unfold vindirect
 split
 ·have h1:=set_len1 (vtake L) (vtakeN L) nought
  have h2:=vtake_len L
  show ((vtake L).set (vtakeN L) nought).stg.length <= _
  omega
 ·show L.stg.length <= _;omega
theorem vgrow_D (p:LSt × Ino) (k:Nat):(vgrow p k).1.D = p.1.D:=((vsetL_D _ _ _ _).trans (setL_D _ _ _)).trans (vtake_D _)
theorem vgrow_len (p:LSt × Ino) (k:Nat):(vgrow p k).1.stg.length <= p.1.stg.length + 3:=by
 have h1:=vtake_len p.1
 have h2:=set_len1 (vtake p.1) (vtakeN p.1) nought
 have h3:=vsetL_len ((vtake p.1).set (vtakeN p.1) nought) p.2 k (vtakeN p.1)
 show (vsetL ((vtake p.1).set (vtakeN p.1) nought) p.2 k (vtakeN p.1)).stg.length <= _
 omega
theorem vgrown_D (x:Ino) (size:Nat):(vgrown L x size).1.D = L.D:=by
 have hf:∀ (l:List Nat) (p:LSt × Ino),(l.foldl (fun q j=>vgrow q (sectorsP x.size + j)) p).1.D = p.1.D:=by
  intro l
  induction l with
  | nil=>intro p;rfl
  | cons k l ih=>intro p;rw [List.foldl_cons,ih];exact vgrow_D _ _
 exact (hf _ _).trans (vindirect_D _ _ _)
theorem vgrown_len (x:Ino) (size:Nat):(vgrown L x size).1.stg.length <= L.stg.length + 2 + 3 * (sectorsP size - sectorsP x.size):=by
 have hf:∀ (l:List Nat) (p:LSt × Ino),(l.foldl (fun q j=>vgrow q (sectorsP x.size + j)) p).1.stg.length <= p.1.stg.length + 3 * l.length:=by
  intro l
  induction l with
  | nil=>intro p;exact Nat.le_refl _
  | cons k l ih =>
   intro p
   rw [List.foldl_cons]
   have h1:=ih (vgrow p (sectorsP x.size + k))
   have h2:=vgrow_len p (sectorsP x.size + k)
   simp only [List.length_cons]
   omega
 have h1:=hf (List.range (sectorsP size - sectorsP x.size)) (vindirect L x size)
 have h2:=vindirect_len L x size
 rw [List.length_range] at h1
 show ((List.range (sectorsP size - sectorsP x.size)).foldl (fun q j=>vgrow q (sectorsP x.size + j)) (vindirect L x size)).1.stg.length <= _
 omega
theorem vput_D (x:Ino):∀ (f:Nat) (L:LSt) (o:Nat) (s:ByteArray),(vput x f L o s).D = L.D
 | 0,_,_,_=>rfl
 | f + 1,L,o,s=>by
  unfold vput
  split
  ·rfl
  ·exact (vput_D x f _ _ _).trans (setL_D _ _ _)
theorem vputL_nil (x:Ino):∀ (f:Nat) (L:LSt) (o:Nat) (s:ByteArray),s.size = 0 -> vput x f L o s = L
 | 0,_,_,_,_=>rfl
 | f + 1,L,o,s,h=>by unfold vput;rw [if_pos h]
theorem vput_len (x:Ino) (f:Nat) (o:Nat) (s:ByteArray) (h:o % 64 + s.size <= 64):(vput x f L o s).stg.length <= L.stg.length + 1:=by
 match f with
 | 0=>exact Nat.le_succ _
 | f + 1 =>
  unfold vput
  split
  ·omega
  ·rw [vputL_nil]
   ·exact set_len1 _ _ _
   ·rw [ByteArray.size_extract];omega
theorem vwrite_D (n off:Int) (s:ByteArray):(vwrite L n off s).D = L.D:=by
 unfold vwrite
 split
 ·exact ((vkeep_D _ _ _).trans (vput_D _ _ _ _ _)).trans (vgrown_D _ _ _)
 ·rfl
theorem vwrite_len (n off:Int) (s:ByteArray) (h:off.toNat % 64 + s.size <= 64):(vwrite L n off s).stg.length <= L.stg.length + 7:=by
 unfold vwrite
 split
 ·next hE =>
  have h0:off.toNat <= (vfindX L n).size:=by
   unfold vwriteE at hE
   split at hE
   ·omega
   ·split at hE
    ·omega
    ·omega
  have h1:=vgrown_len L (vfindX L n) (max (vfindX L n).size (off.toNat + s.size))
  have h2:=vput_len (vgrown L (vfindX L n) (max (vfindX L n).size (off.toNat + s.size))).1 (vgrown L (vfindX L n) (max (vfindX L n).size (off.toNat + s.size))).2 s.size off.toNat s h
  have h3:=set_len1 (vput (vgrown L (vfindX L n) (max (vfindX L n).size (off.toNat + s.size))).2 s.size (vgrown L (vfindX L n) (max (vfindX L n).size (off.toNat + s.size))).1 off.toNat s) (1 + n.toNat / 4:Nat) (patched (vget (vput (vgrown L (vfindX L n) (max (vfindX L n).size (off.toNat + s.size))).2 s.size (vgrown L (vfindX L n) (max (vfindX L n).size (off.toNat + s.size))).1 off.toNat s) (1 + n.toNat / 4:Nat)) (n.toNat % 4 * 16) (encodeP (vgrown L (vfindX L n) (max (vfindX L n).size (off.toNat + s.size))).2))
  have h4:sectorsP (max (vfindX L n).size (off.toNat + s.size)) - sectorsP (vfindX L n).size <= 1:=by unfold sectorsP;omega
  show (vkeep _ _ _).stg.length <= _
  unfold vkeep vpatch
  omega
 ·omega
end
end Go.Proofs.YtngalllaiphkhaaGreatDoor
